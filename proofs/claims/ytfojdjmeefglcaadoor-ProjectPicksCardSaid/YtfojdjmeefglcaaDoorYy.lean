/-
  The law ProjectPicks answers true for every input: its walk.
-/
import Derived.Test.YtfojdjmeefglcaaDoorYq
import Derived.Test.YtfojdjmeefglcaaDoorVc
namespace Go.Proofs.YtfojdjmeefglcaaDoor
open Go.RowKit

theorem u64_nn (x : Int) : 0 ≤ IntKind.u64.wrap x := by simp [IntKind.wrap, IntKind.bits, IntKind.signed]; omega
theorem rem_nat (x : Int) (h0 : 0 ≤ x) (k : Nat) (hk : 0 < k) (hk2 : k ≤ 4398046511102) : ∃ a : Nat, wrap64 (x.tmod (k : Int)) = (a : Int) ∧ a < k := by
  have h1 : x.tmod (k : Int) = x % (k : Int) := Int.tmod_eq_emod_of_nonneg h0
  have h2 := Int.emod_nonneg x (show (k : Int) ≠ 0 by omega)
  have h3 := Int.emod_lt_of_pos x (show (0 : Int) < (k : Int) by omega)
  refine ⟨(x % (k : Int)).toNat, ?_, by omega⟩
  rw [h1, wrap64]
  omega
/-- The cells of column k. -/
theorem SchIn.col {w0 w : World} {s : Sch} {As : Option Addr} {cs : Nat} (h : SchIn w0 s As cs) (hf : Fut w0 w) {k : Nat} (hk : k < s.cols.length) : ∃ b off, As = some ⟨b, off, none⟩ ∧ b < w0.heap.size ∧ ∀ k', k' < s.cols.length → ∃ c, s.cols[k']? = some c ∧ At w b (off + k' * 3) c.cells := by
  obtain ⟨b, off, e, hb, hc⟩ := h.at_.elem hf (k := k) (by simpa using hk)
  refine ⟨b, off, e, hb, fun k' hk' => ⟨s.cols[k'], List.getElem?_eq_getElem hk', hc k' _ (by simp [hk'])⟩⟩
theorem clean_small (v : Val) (h : (clean v).s = v.s → v.s.size ≤ 9223372036854775807) : (clean v).s.size ≤ 9223372036854775807 := by
  by_cases h3 : v.kind = 3
  · have e : (clean v).s = v.s := by simp [clean, h3]
    rw [e]; exact h e
  · have e : (clean v).s = .empty := by
      unfold clean
      by_cases h1 : v.kind = 1
      · rw [if_pos h1]
      by_cases h2 : v.kind = 2
      · rw [if_neg h1, if_pos h2]
      rw [if_neg h1, if_neg h2, if_neg h3]
      rfl
    rw [e]; exact Nat.zero_le _
theorem len_nil {os : List RowA} (h : os.map RowA.vs = []) : os = [] := by simpa using h
theorem strCells3 (a b c : ByteArray) : strCells [a, b, c] = [[.string a], [.string b], [.string c]] := rfl

set_option maxRecDepth 100000 in
set_option maxHeartbeats 16000000 in
theorem picks_any (s : Sch) (As : Option Addr) (cs : Nat) (rs : List RowA) (Ar : Option Addr) (cr : Nat) (at_ : Int) (w : World) (hs : SchIn w s As cs) (hr : RowsIn w rs Ar cr) :
    Calls Tryd.prog 9 #[s.val As cs, .slice Ar rs.length cr, .int .i64 at_] w fun e w' => e = .returned (.bool true) ∧ Step w w' := by
  have hsl := hs.len
  obtain ⟨W, hW⟩ : ∃ W, W = w.alloc (.cells #[.int .i64 s.id, .slice As s.cols.length cs, .int .i64 s.next] 24) := ⟨_, rfl⟩
  have SW : Step w W := by rw [hW]; exact Step.of
  have HSW : Hid (Blk W w.heap.size 24 [.int .i64 s.id, .slice As s.cols.length cs, .int .i64 s.next]) := by rw [hW]; exact Blk.new w [.int .i64 s.id, .slice As s.cols.length cs, .int .i64 s.next] 24
  have HW := hide hW
  have hzW := SW.size
  clear hW
  unfold Sch.val
  by_cases hk0 : s.cols.length = 0
  · have hkb : ((s.cols.length : Int) == 0) = true := by rw [hk0]; rfl
    clear hk0
    go_enter Tryd.func9, Tryd.ntmps9
    go_wp2_with (go_at_call 41; refine (awake14_any _).mono ?_; rintro e w1 ⟨rfl, hs1⟩; rw [← HW.out] at hs1; obtain ⟨q0, q1, q2⟩ := At.z3 (HSW.out.fut (w' := w1)).at0; have lq := (HSW.out.fut (w' := w1)).lt)
    go_ret
    exact ⟨rfl, Step.of⟩
  · have hkb : ((s.cols.length : Int) == 0) = false := beq_eq_false_iff_ne.2 (by omega)
    have hk1 : 0 < (s.cols.length : Int) := by omega
    have hk2 : (s.cols.length : Int) ≤ 4398046511102 := by omega
    clear hk0
    go_enter Tryd.func9, Tryd.ntmps9
    go_wp2_with (go_at_call 41; refine (awake14_any _).mono ?_; rintro e w1 ⟨rfl, hs1⟩; rw [← HW.out] at hs1; obtain ⟨q0, q1, q2⟩ := At.z3 (HSW.out.fut (w' := w1)).at0; have lq := (HSW.out.fut (w' := w1)).lt)
    obtain ⟨a, hqa, ha⟩ := rem_nat _ (u64_nn at_) s.cols.length (by omega) (by omega)
    obtain ⟨b, hqb, hb⟩ := rem_nat _ (u64_nn ((IntKind.u64.wrap at_).tdiv 7)) s.cols.length (by omega) (by omega)
    go_quiet (fail)
    go_upto_region 7 with (fail)
    rw [hqa, hqb]
    clear hqa hqb
    have hz1 := hs1.size
    obtain ⟨wo, hwo⟩ : ∃ x : World, x = w1.drewN nq := ⟨_, rfl⟩
    have F1 : Step w1 wo := by rw [hwo]; exact Step.of
    rw [← hwo]
    clear hwo q0 q1 q2 lq
    have hzo := F1.size
    obtain ⟨bc, oc, hA, hbc, hcol⟩ := hs.col (w := wo) inferInstance ha
    obtain ⟨ca, hca, hata⟩ := hcol a ha
    obtain ⟨cb, hcb, hatb⟩ := hcol b hb
    obtain ⟨p0, p1, p2⟩ := At.l3 hata
    obtain ⟨u0, u1, u2⟩ := At.l3 hatb
    have hlc : bc < wo.heap.size := by omega
    have l2_ := HSW.out.fut (w' := wo)
    obtain ⟨q0, q1, q2⟩ := At.z3 l2_.at0; have lq := l2_.lt
    rw [hA] at q1
    have HA := hide hA
    rw [hA] at hs
    have hs' := hide hs
    rw [hA]
    have ha0 : (0 : Int) ≤ (a : Int) := by omega
    have ha1 : (a : Int) < (s.cols.length : Int) := by omega
    have hb0 : (0 : Int) ≤ (b : Int) := by omega
    have hb1 : (b : Int) < (s.cols.length : Int) := by omega
    have HNA := hide (hs.names ca (List.mem_of_getElem? hca)); have HNB := hide (hs.names cb (List.mem_of_getElem? hcb))
    have HCA := hide hca; have HCB := hide hcb
    clear hA hs hcol hata hatb hca hcb l2_
    have HN3 := hide (SlAt.strs3 (w := wo) rfl ca.name cb.name ca.name)
    obtain ⟨T, hT⟩ : ∃ T, pickR s (rs.map RowA.vs) [ca.name, cb.name, ca.name] = T := ⟨_, rfl⟩
    have HT := hide hT
    have T1 : Hid (∀ (w' : World) [Fut w w'] [Fut (wo.alloc (.cells #[.string ca.name, .string cb.name, .string ca.name] 9)) w'], Calls Tryd.prog 36 #[.agg #[.int .i64 s.id, .slice (some ⟨bc, oc, none⟩) s.cols.length cs, .int .i64 s.next], .slice Ar rs.length cr, .slice (some ⟨wo.heap.size, 0, none⟩) 3 3] w' fun e w'' => ∃ (A' : Option Addr) (c' : Nat) (os : List RowA), os.map RowA.vs = T.1 ∧ e = .returned (.tuple #[.slice A' os.length c', .int .i64 T.2]) ∧ OwnR w'' w'.heap.size A' os.length c' os ∧ Step w' w'') := hide (fun w' _ _ => by
      rw [← HT.out]
      exact ppick_any s (some ⟨bc, oc, none⟩) cs rs Ar cr [ca.name, cb.name, ca.name] (some ⟨wo.heap.size, 0, none⟩) 3 w' hs'.out hr HN3.out (by show (3 + 1) * 40 ≤ _; decide))
    clear hT
    refine wp_region_held_drew (S := (fun w' => Step wo w' ∧ (∀ b o, b < wo.heap.size → w'.cell? ⟨b, o, none⟩ = wo.cell? ⟨b, o, none⟩))) (by kernel_rfl) (by (try dsimp only); (first | exact ⟨hS1, hS2⟩ | exact ⟨Step.of, (bcell (fut _ _)).1⟩)) (fun hHeld => ?_)
    refine wpAnyH_take (i := 0) (oi := ⟨some 38, _, _, _, _, _⟩) (v := ?_) rfl (by kernel_rfl) (by kernel_rfl) (by kernel_rfl) (fun _ _ _ h => h) (Or.inl ⟨by rfl, ?_⟩) (by assumption) ?_
    rotate_left
    · ((intro w hSw); (try dsimp only at hSw); go_simp; (try with_reducible rfl))
    (try simp only [Act.put, List.setIfInBounds_toArray, List.set_cons_zero, List.set_cons_succ])
    refine wpAnyH_take (i := 1) (oi := ⟨some 39, _, _, _, _, _⟩) (v := ?_) rfl (by kernel_rfl) (by kernel_rfl) (by kernel_rfl) (fun _ _ _ h => h) (Or.inl ⟨by rfl, ?_⟩) (by assumption) ?_
    rotate_left
    · ((intro w hSw); (try dsimp only at hSw); go_simp; (try with_reducible rfl))
    (try simp only [Act.put, List.setIfInBounds_toArray, List.set_cons_zero, List.set_cons_succ])
    refine wpAnyH_take (i := 2) (oi := ⟨some 40, _, _, _, _, _⟩) (v := ?_) rfl (by kernel_rfl) (by kernel_rfl) (by kernel_rfl) (fun _ _ _ h => h) (Or.inl ⟨by rfl, ?_⟩) (by assumption) ?_
    rotate_left
    · ((intro w hSw); (try dsimp only at hSw); go_simp; (try with_reducible rfl))
    (try simp only [Act.put, List.setIfInBounds_toArray, List.set_cons_zero, List.set_cons_succ])
    refine wpAnyH_take (i := 4) (oi := ⟨some 42, _, _, _, _, _⟩) (v := ?_) rfl (by kernel_rfl) (by kernel_rfl) (by kernel_rfl) (fun _ _ _ h => h) (Or.inl ⟨by rfl, ?_⟩) (by assumption) ?_
    rotate_left
    · ((intro w hSw); (try dsimp only at hSw); go_simp; (try with_reducible rfl))
    (try simp only [Act.put, List.setIfInBounds_toArray, List.set_cons_zero, List.set_cons_succ])
    refine wpAnyH_take (i := 8) (oi := ⟨some 46, _, _, _, _, _⟩) (v := ?_) rfl (by kernel_rfl) (by kernel_rfl) (by kernel_rfl) (fun _ _ _ h => h) (Or.inl ⟨by rfl, ?_⟩) (by assumption) ?_
    rotate_left
    · ((intro w hSw); (try dsimp only at hSw); go_simp; (try with_reducible rfl))
    (try simp only [Act.put, List.setIfInBounds_toArray, List.set_cons_zero, List.set_cons_succ])
    refine wpAnyH_take (i := 10) (oi := ⟨some 48, _, _, _, _, _⟩) (v := ?_) rfl (by kernel_rfl) (by kernel_rfl) (by kernel_rfl) (fun _ _ _ h => h) (Or.inl ⟨by rfl, ?_⟩) (by assumption) ?_
    rotate_left
    · ((intro w hSw); (try dsimp only at hSw); go_simp; (try with_reducible rfl))
    (try simp only [Act.put, List.setIfInBounds_toArray, List.set_cons_zero, List.set_cons_succ])
    refine wpAnyH_take (i := 14) (oi := ⟨some 52, _, _, _, _, _⟩) (v := ?_) rfl (by kernel_rfl) (by kernel_rfl) (by kernel_rfl) (fun _ _ _ h => h) (Or.inl ⟨by rfl, ?_⟩) (by assumption) ?_
    rotate_left
    · ((intro w hSw); (try dsimp only at hSw); go_simp; (try with_reducible rfl))
    (try simp only [Act.put, List.setIfInBounds_toArray, List.set_cons_zero, List.set_cons_succ])
    refine wpAnyH_take (i := 16) (oi := ⟨some 54, _, _, _, _, _⟩) (v := ?_) rfl (by kernel_rfl) (by kernel_rfl) (by kernel_rfl) (fun _ _ _ h => h) (Or.inl ⟨by rfl, ?_⟩) (by assumption) ?_
    rotate_left
    · ((intro w hSw); (try dsimp only at hSw); go_simp; (try with_reducible rfl))
    (try simp only [Act.put, List.setIfInBounds_toArray, List.set_cons_zero, List.set_cons_succ])
    refine wpAnyH_take (i := 3) (oi := ⟨some 41, _, _, _, _, _⟩) (v := ?_) rfl (by kernel_rfl) (by kernel_rfl) (by kernel_rfl) (fun _ _ _ h => h) (Or.inl ⟨by rfl, ?_⟩) (by assumption) ?_
    rotate_left
    · ((intro w hSw); (try dsimp only at hSw); go_simp; (try with_reducible rfl))
    (try simp only [Act.put, List.setIfInBounds_toArray, List.set_cons_zero, List.set_cons_succ])
    refine wpAnyH_take (i := 9) (oi := ⟨some 47, _, _, _, _, _⟩) (v := ?_) rfl (by kernel_rfl) (by kernel_rfl) (by kernel_rfl) (fun _ _ _ h => h) (Or.inl ⟨by rfl, ?_⟩) (by assumption) ?_
    rotate_left
    · ((intro w hSw); (try dsimp only at hSw); go_simp; (try with_reducible rfl))
    (try simp only [Act.put, List.setIfInBounds_toArray, List.set_cons_zero, List.set_cons_succ])
    refine wpAnyH_take (i := 15) (oi := ⟨some 53, _, _, _, _, _⟩) (v := ?_) rfl (by kernel_rfl) (by kernel_rfl) (by kernel_rfl) (fun _ _ _ h => h) (Or.inl ⟨by rfl, ?_⟩) (by assumption) ?_
    rotate_left
    · ((intro w hSw); (try dsimp only at hSw); go_simp; (try with_reducible rfl))
    (try simp only [Act.put, List.setIfInBounds_toArray, List.set_cons_zero, List.set_cons_succ])
    refine wpAnyH_take (i := 5) (oi := ⟨some 43, _, _, _, _, _⟩) (v := ?_) rfl (by kernel_rfl) (by kernel_rfl) (by kernel_rfl) (fun _ _ _ h => h) (Or.inl ⟨by rfl, ?_⟩) (by assumption) ?_
    rotate_left
    · ((intro w hSw); (try dsimp only at hSw); go_simp; (try with_reducible rfl))
    (try simp only [Act.put, List.setIfInBounds_toArray, List.set_cons_zero, List.set_cons_succ])
    refine wpAnyH_take (i := 11) (oi := ⟨some 49, _, _, _, _, _⟩) (v := ?_) rfl (by kernel_rfl) (by kernel_rfl) (by kernel_rfl) (fun _ _ _ h => h) (Or.inl ⟨by rfl, ?_⟩) (by assumption) ?_
    rotate_left
    · ((intro w hSw); (try dsimp only at hSw); go_simp; (try with_reducible rfl))
    (try simp only [Act.put, List.setIfInBounds_toArray, List.set_cons_zero, List.set_cons_succ])
    refine wpAnyH_take (i := 17) (oi := ⟨some 55, _, _, _, _, _⟩) (v := ?_) rfl (by kernel_rfl) (by kernel_rfl) (by kernel_rfl) (fun _ _ _ h => h) (Or.inl ⟨by rfl, ?_⟩) (by assumption) ?_
    rotate_left
    · ((intro w hSw); (try dsimp only at hSw); go_simp; (try with_reducible rfl))
    (try simp only [Act.put, List.setIfInBounds_toArray, List.set_cons_zero, List.set_cons_succ])
    refine wpAnyH_take (i := 6) (oi := ⟨some 44, _, _, _, _, _⟩) (v := ?_) rfl (by kernel_rfl) (by kernel_rfl) (by kernel_rfl) (fun _ _ _ h => h) (Or.inl ⟨by rfl, ?_⟩) (by assumption) ?_
    rotate_left
    · ((intro w hSw); (try dsimp only at hSw); go_simp; (try with_reducible rfl))
    (try simp only [Act.put, List.setIfInBounds_toArray, List.set_cons_zero, List.set_cons_succ])
    refine wpAnyH_take (i := 12) (oi := ⟨some 50, _, _, _, _, _⟩) (v := ?_) rfl (by kernel_rfl) (by kernel_rfl) (by kernel_rfl) (fun _ _ _ h => h) (Or.inl ⟨by rfl, ?_⟩) (by assumption) ?_
    rotate_left
    · ((intro w hSw); (try dsimp only at hSw); go_simp; (try with_reducible rfl))
    (try simp only [Act.put, List.setIfInBounds_toArray, List.set_cons_zero, List.set_cons_succ])
    refine wpAnyH_take (i := 18) (oi := ⟨some 56, _, _, _, _, _⟩) (v := ?_) rfl (by kernel_rfl) (by kernel_rfl) (by kernel_rfl) (fun _ _ _ h => h) (Or.inl ⟨by rfl, ?_⟩) (by assumption) ?_
    rotate_left
    · ((intro w hSw); (try dsimp only at hSw); go_simp; (try with_reducible rfl))
    (try simp only [Act.put, List.setIfInBounds_toArray, List.set_cons_zero, List.set_cons_succ])
    refine wpAnyH_take (i := 7) (oi := ⟨some 45, _, _, _, _, _⟩) (v := ?_) rfl (by kernel_rfl) (by kernel_rfl) (by kernel_rfl) (fun _ _ _ h => h) (Or.inl ⟨by rfl, ?_⟩) (by assumption) ?_
    rotate_left
    · ((intro w hSw); (try dsimp only at hSw); go_simp; (try with_reducible rfl))
    (try simp only [Act.put, List.setIfInBounds_toArray, List.set_cons_zero, List.set_cons_succ])
    refine wpAnyH_take (i := 13) (oi := ⟨some 51, _, _, _, _, _⟩) (v := ?_) rfl (by kernel_rfl) (by kernel_rfl) (by kernel_rfl) (fun _ _ _ h => h) (Or.inl ⟨by rfl, ?_⟩) (by assumption) ?_
    rotate_left
    · ((intro w hSw); (try dsimp only at hSw); go_simp; (try with_reducible rfl))
    (try simp only [Act.put, List.setIfInBounds_toArray, List.set_cons_zero, List.set_cons_succ])
    refine wpAnyH_take (i := 19) (oi := ⟨some 57, _, _, _, _, _⟩) (v := ?_) rfl (by kernel_rfl) (by kernel_rfl) (by kernel_rfl) (fun _ _ _ h => h) (Or.inl ⟨by rfl, ?_⟩) (by assumption) ?_
    rotate_left
    · ((intro w hSw); (try dsimp only at hSw); go_simp; (try with_reducible rfl))
    (try simp only [Act.put, List.setIfInBounds_toArray, List.set_cons_zero, List.set_cons_succ])
    refine wpAnyH_ready (rs := [20]) (by kernel_rfl) (by simp) ?_
    refine AllReadyH.cons (o := ⟨some 58, _, _, _, _, _⟩) rfl (fun K hK => ?_) AllReadyH.nil
    go_simp
    refine hK.out _ _ (by (try dsimp only); (exact ⟨Step.of, (bcell (fut _ _)).1⟩)) (fun hHeld => ?_)
    clear hK K
    (try simp only [Act.put, List.setIfInBounds_toArray, List.set_cons_zero, List.set_cons_succ])
    refine wpAnyH_ready (rs := [21]) (by kernel_rfl) (by simp) ?_
    refine AllReadyH.cons (o := ⟨some 59, _, _, _, _, _⟩) rfl (fun K hK => ?_) AllReadyH.nil
    obtain ⟨hS1, hS2⟩ := hHeld
    go_simp
    (go_at_call 36; (with_reducible refine (T1.out _).mono ?_); intro e w3 hr3; obtain ⟨A3, v3, os1, ho1, rfl, hown3, hs3⟩ := hr3; have HO3 := hide hown3; clear hown3)
    refine hK.out _ _ (by (try dsimp only); (first | exact ⟨hS1, hS2⟩ | exact ⟨Step.of, (bcell (fut _ _)).1⟩)) (fun hHeld => ?_)
    clear hK K
    (try simp only [Act.put, List.setIfInBounds_toArray, List.set_cons_zero, List.set_cons_succ])
    refine wpAnyH_take (i := 22) (oi := ⟨some 37, _, _, _, _, _⟩) (v := ?_) rfl (by kernel_rfl) (by kernel_rfl) (by kernel_rfl) (fun _ _ _ h => h) (Or.inl ⟨by rfl, ?_⟩) (by assumption) ?_
    rotate_left
    · ((intro w hSw); (try dsimp only at hSw); go_simp; (try with_reducible rfl))
    (try simp only [Act.put, List.setIfInBounds_toArray, List.set_cons_zero, List.set_cons_succ])
    refine wpAnyH_take (i := 23) (oi := ⟨some 60, _, _, _, _, _⟩) (v := ?_) rfl (by kernel_rfl) (by kernel_rfl) (by kernel_rfl) (fun _ _ _ h => h) (Or.inl ⟨by rfl, ?_⟩) (by assumption) ?_
    rotate_left
    · ((intro w hSw); (try dsimp only at hSw); go_simp; (try with_reducible rfl))
    (try simp only [Act.put, List.setIfInBounds_toArray, List.set_cons_zero, List.set_cons_succ])
    refine wpAnyH_take (i := 24) (oi := ⟨some 61, _, _, _, _, _⟩) (v := ?_) rfl (by kernel_rfl) (by kernel_rfl) (by kernel_rfl) (fun _ _ _ h => h) (Or.inl ⟨by rfl, ?_⟩) (by assumption) ?_
    rotate_left
    · ((intro w hSw); (try dsimp only at hSw); go_simp; (try with_reducible rfl))
    (try simp only [Act.put, List.setIfInBounds_toArray, List.set_cons_zero, List.set_cons_succ])
    refine wpAnyH_take (i := 25) (oi := ⟨some 10, _, _, _, _, _⟩) (v := ?_) rfl (by kernel_rfl) (by kernel_rfl) (by kernel_rfl) (fun _ _ _ h => h) (Or.inl ⟨by rfl, ?_⟩) (by assumption) ?_
    rotate_left
    · ((intro w hSw); (try dsimp only at hSw); go_simp; (try with_reducible rfl))
    (try simp only [Act.put, List.setIfInBounds_toArray, List.set_cons_zero, List.set_cons_succ])
    refine wpAnyH_take (i := 26) (oi := ⟨some 11, _, _, _, _, _⟩) (v := ?_) rfl (by kernel_rfl) (by kernel_rfl) (by kernel_rfl) (fun _ _ _ h => h) (Or.inl ⟨by rfl, ?_⟩) (by assumption) ?_
    rotate_left
    · ((intro w hSw); (try dsimp only at hSw); go_simp; (try with_reducible rfl))
    (try simp only [Act.put, List.setIfInBounds_toArray, List.set_cons_zero, List.set_cons_succ])
    refine wpAnyH_done (by kernel_rfl) ?_ _
    go_wp2_with fail
    clear q0 q1 q2 lq p0 p1 p2 u0 u1 u2 hlc
    by_cases he : T.2 = 0
    · obtain ⟨TL, TE⟩ := T
      have he : TE = 0 := he
      subst he
      have hpk := picks_ok (show (pickR s (rs.map RowA.vs) [ca.name, cb.name, ca.name]).2 = 0 by rw [HT.out])
      have hln := pickR_len (show (pickR s (rs.map RowA.vs) [ca.name, cb.name, ca.name]).2 = 0 by rw [HT.out])
      have HM := hide hpk.1
      have HWD : Hid (∀ r ∈ rs, r.vs.length = s.cols.length) := fun r hr => by
        have := List.all_eq_true.1 hpk.2.2 r.vs (List.mem_map.2 ⟨r, hr, rfl⟩)
        simpa using this
      have HV1 : Hid (os1.map RowA.vs = (rs.map RowA.vs).map (pickRow [(a : Int), (b : Int), (a : Int)])) := by
        show _ = _
        have ea : idx (named ca.name) s.cols = (a : Int) := by
          have := idx_name hpk.1 ha
          rwa [(List.getElem?_eq_some_iff.1 HCA.out).2] at this
        have eb : idx (named cb.name) s.cols = (b : Int) := by
          have := idx_name hpk.1 hb
          rwa [(List.getElem?_eq_some_iff.1 HCB.out).2] at this
        rw [ho1, ← show (pickR s (rs.map RowA.vs) [ca.name, cb.name, ca.name]).1 = TL by rw [HT.out], hln]
        simp only [pickFr, List.map_cons, List.map_nil, ea, eb]
      have hl1 : os1.length = rs.length := by have := congrArg List.length HV1.out; simpa using this
      have HR1 := hide (HO3.out.rin (by rw [hl1]; exact hr.hcapm) (fun vs hvs => by
        rw [HV1.out] at hvs
        obtain ⟨us, hus, rfl⟩ := List.mem_map.1 hvs
        obtain ⟨r, hrm, rfl⟩ := List.mem_map.1 hus
        refine ⟨by rw [pickRow_len]; exact (by decide : 3 ≤ 3518437208780), fun v hv => ?_⟩
        obtain ⟨k, _, rfl⟩ := List.mem_map.1 hv
        refine clean_small _ fun he => ?_
        rw [List.getD_eq_getElem?_getD]
        cases e : r.vs[k.toNat]? with
        | none => exact Nat.zero_le _
        | some u => exact (hr.rows r hrm).strs u (List.mem_of_getElem? e)))
      rw [hl1]
      clear HO3 ho1 hpk hln hl1
      have hz3 := (fut wo w3).size
      have T2 : Hid (∀ (w' : World) [Fut w w'], Calls Tryd.prog 36 #[.agg #[.int .i64 s.id, .slice (some ⟨bc, oc, none⟩) s.cols.length cs, .int .i64 s.next], .slice Ar rs.length cr, .slice none 0 0] w' fun e w'' => ∃ (A' : Option Addr) (c' : Nat) (os : List RowA), os.map RowA.vs = (rs.map RowA.vs).map (pickRow []) ∧ e = .returned (.tuple #[.slice A' os.length c', .int .i64 0]) ∧ OwnR w'' w'.heap.size A' os.length c' os ∧ Step w' w'') := hide (fun w' _ => by
        have hp : pickR s (rs.map RowA.vs) [] = ((rs.map RowA.vs).map (pickRow []), 0) := by
          have hw : widthOk s (rs.map RowA.vs) = true := by
            unfold widthOk
            rw [List.all_eq_true]
            intro vs hvs
            obtain ⟨r, hrm, rfl⟩ := List.mem_map.1 hvs
            simpa using HWD.out r hrm
          rw [pickR_eq, if_pos ⟨HM.out, rfl, hw⟩]
          rfl
        have := ppick_any (w2 := w) s (some ⟨bc, oc, none⟩) cs rs Ar cr [] none 0 w' hs'.out hr SlAt.nil_ (by decide)
        rw [hp] at this
        exact this)
      have l2_ := HSW.out.fut (w' := w3)
      rw [HA.out] at l2_
      obtain ⟨q0, q1, q2⟩ := At.z3 l2_.at0; have lq := l2_.lt
      clear l2_
      go_wp2_with (first | (go_at_call 22; refine (num_any _ _).mono ?_; rintro e w' ⟨rfl, rfl⟩) | (go_at_call 36; (with_reducible refine (T2.out _).mono ?_); intro e w4 hr4; obtain ⟨A4, v4, os2, ho2, rfl, hown4, hs4⟩ := hr4; have HO4 := hide hown4; have HV2 := hide ho2; clear hown4 ho2))
      have hl2 : os2.length = rs.length := by have := congrArg List.length HV2.out; simpa using this
      have HR2 := hide (HO4.out.rin (by rw [hl2]; exact hr.hcapm) (fun vs hvs => by
        rw [HV2.out] at hvs
        obtain ⟨us, hus, rfl⟩ := List.mem_map.1 hvs
        exact ⟨by rw [pickRow_len]; exact Nat.zero_le _, fun v hv => by simp [pickRow] at hv⟩))
      rw [hl2]
      clear HO4 hl2 q0 q1 q2 lq
      have hz4 := hs4.size
      have hrm := hr.hcapm
      go_loopw [14, 15, 16] (fun i _ _ wr => ∃ k : Nat, k ≤ rs.length ∧ i = .int .i64 k ∧ Step w4 wr) (fun i _ _ _ => rs.length - (intOf i).toNat)
      case atStart => exact ⟨0, Nat.zero_le _, rfl, Step.of⟩
      case round =>
        obtain ⟨k, hk, rfl, hst⟩ := hrel
        obtain ⟨wo, hwo⟩ : ∃ x : World, x = wr := ⟨_, rfl⟩
        rw [← hwo] at hst
        rw [← hwo]
        clear hwo
        have hzo := hst.size
        by_cases hlt : k < rs.length
        · obtain ⟨b1, o1, hB1, hb1', r, hrk, hri, p0⟩ := hr.row (w' := wo) inferInstance hlt
          obtain ⟨b2, o2, hB2, hb2', o, hok, hoi, u0⟩ := HR1.out.row (w' := wo) inferInstance (k := k) (by have := congrArg List.length HV1.out; simp at this; omega)
          obtain ⟨b3, o3, hB3, hb3', n, hnk, hni, y0⟩ := HR2.out.row (w' := wo) inferInstance (k := k) (by have := congrArg List.length HV2.out; simp at this; omega)
          have hrl : r.vs.length = s.cols.length := HWD.out r (List.mem_of_getElem? hrk)
          obtain ⟨va, hva⟩ : ∃ v, r.vs[a]? = some v := ⟨_, List.getElem?_eq_getElem (by omega)⟩
          obtain ⟨vb, hvb⟩ : ∃ v, r.vs[b]? = some v := ⟨_, List.getElem?_eq_getElem (by omega)⟩
          have hov : o.vs = [clean va, clean vb, clean va] := by
            have h1 : (os1.map RowA.vs)[k]? = some o.vs := by simp [hok]
            rw [HV1.out] at h1
            simp [hrk, pickRow, hva, hvb, List.getD_eq_getElem?_getD] at h1
            exact h1.symm
          have hnv : n.vs = [] := by
            have h1 : (os2.map RowA.vs)[k]? = some n.vs := by simp [hnk]
            rw [HV2.out] at h1
            simp [hrk, pickRow] at h1
            exact h1
          have hoa := hoi.at_
          rw [hov] at hoa u0
          rw [hnv] at y0
          have HOA := hide hoa
          obtain ⟨b5, o5, hB5, hb5', hc5⟩ := hri.at_.elem (w' := wo) inferInstance (k := a) (by rw [List.length_map]; omega)
          obtain ⟨v0, v1, v2, v3⟩ := At.l4 (hc5 a va.cells (by simp [hva]))
          obtain ⟨x0, x1, x2, x3⟩ := At.l4 (hc5 b vb.cells (by simp [hvb]))
          rw [hB5] at p0
          rw [hB1, hB2, hB3]
          have hkl : (k : Int) < (rs.length : Int) := by omega
          have hk0 : (0 : Int) ≤ (k : Int) := by omega
          have ga : (a : Int) < (r.vs.length : Int) := by omega
          have gb : (b : Int) < (r.vs.length : Int) := by omega
          have l1 : b1 < wo.heap.size := by omega
          have l2 : b2 < wo.heap.size := by omega
          have l3 : b3 < wo.heap.size := by omega
          have l5 : b5 < wo.heap.size := by omega
          clear hrk hok hnk hrl hva hvb hov hnv hoa hc5 hB1 hB2 hB3 hB5
          go_upto_region 14 with (fail)
          refine wp_region_held_drew (S := (fun w' => Step wo w' ∧ (∀ b o, b < wo.heap.size → w'.cell? ⟨b, o, none⟩ = wo.cell? ⟨b, o, none⟩))) (by kernel_rfl) (by (try dsimp only); (first | exact ⟨hS1, hS2⟩ | exact ⟨Step.of, (bcell (fut _ _)).1⟩)) (fun hHeld => ?_)
          refine wpAnyH_take (i := 0) (oi := ⟨some 80, _, _, _, _, _⟩) (v := ?_) rfl (by kernel_rfl) (by kernel_rfl) (by kernel_rfl) (fun _ _ _ h => h) (Or.inl ⟨by rfl, ?_⟩) (by assumption) ?_
          rotate_left
          · ((intro w hSw); (try dsimp only at hSw); go_simp; (try with_reducible rfl))
          (try simp only [Act.put, List.setIfInBounds_toArray, List.set_cons_zero, List.set_cons_succ])
          refine wpAnyH_take (i := 1) (oi := ⟨some 81, _, _, _, _, _⟩) (v := ?_) rfl (by kernel_rfl) (by kernel_rfl) (by kernel_rfl) (fun _ _ _ h => h) (Or.inl ⟨by rfl, ?_⟩) (by assumption) ?_
          rotate_left
          · ((intro w hSw); (try dsimp only at hSw); go_simp; (try with_reducible rfl))
          (try simp only [Act.put, List.setIfInBounds_toArray, List.set_cons_zero, List.set_cons_succ])
          refine wpAnyH_take (i := 5) (oi := ⟨some 85, _, _, _, _, _⟩) (v := ?_) rfl (by kernel_rfl) (by kernel_rfl) (by kernel_rfl) (fun _ _ _ h => h) (Or.inl ⟨by rfl, ?_⟩) (by assumption) ?_
          rotate_left
          · ((intro w hSw); (try dsimp only at hSw); go_simp; (try with_reducible rfl))
          (try simp only [Act.put, List.setIfInBounds_toArray, List.set_cons_zero, List.set_cons_succ])
          refine wpAnyH_take (i := 8) (oi := ⟨some 88, _, _, _, _, _⟩) (v := ?_) rfl (by kernel_rfl) (by kernel_rfl) (by kernel_rfl) (fun _ _ _ h => h) (Or.inl ⟨by rfl, ?_⟩) (by assumption) ?_
          rotate_left
          · ((intro w hSw); (try dsimp only at hSw); go_simp; (try with_reducible rfl))
          (try simp only [Act.put, List.setIfInBounds_toArray, List.set_cons_zero, List.set_cons_succ])
          refine wpAnyH_take (i := 9) (oi := ⟨some 89, _, _, _, _, _⟩) (v := ?_) rfl (by kernel_rfl) (by kernel_rfl) (by kernel_rfl) (fun _ _ _ h => h) (Or.inl ⟨by rfl, ?_⟩) (by assumption) ?_
          rotate_left
          · ((intro w hSw); (try dsimp only at hSw); go_simp; (try with_reducible rfl))
          (try simp only [Act.put, List.setIfInBounds_toArray, List.set_cons_zero, List.set_cons_succ])
          refine wpAnyH_take (i := 13) (oi := ⟨some 93, _, _, _, _, _⟩) (v := ?_) rfl (by kernel_rfl) (by kernel_rfl) (by kernel_rfl) (fun _ _ _ h => h) (Or.inl ⟨by rfl, ?_⟩) (by assumption) ?_
          rotate_left
          · ((intro w hSw); (try dsimp only at hSw); go_simp; (try with_reducible rfl))
          (try simp only [Act.put, List.setIfInBounds_toArray, List.set_cons_zero, List.set_cons_succ])
          refine wpAnyH_take (i := 16) (oi := ⟨some 96, _, _, _, _, _⟩) (v := ?_) rfl (by kernel_rfl) (by kernel_rfl) (by kernel_rfl) (fun _ _ _ h => h) (Or.inl ⟨by rfl, ?_⟩) (by assumption) ?_
          rotate_left
          · ((intro w hSw); (try dsimp only at hSw); go_simp; (try with_reducible rfl))
          (try simp only [Act.put, List.setIfInBounds_toArray, List.set_cons_zero, List.set_cons_succ])
          refine wpAnyH_take (i := 17) (oi := ⟨some 97, _, _, _, _, _⟩) (v := ?_) rfl (by kernel_rfl) (by kernel_rfl) (by kernel_rfl) (fun _ _ _ h => h) (Or.inl ⟨by rfl, ?_⟩) (by assumption) ?_
          rotate_left
          · ((intro w hSw); (try dsimp only at hSw); go_simp; (try with_reducible rfl))
          (try simp only [Act.put, List.setIfInBounds_toArray, List.set_cons_zero, List.set_cons_succ])
          refine wpAnyH_take (i := 21) (oi := ⟨some 101, _, _, _, _, _⟩) (v := ?_) rfl (by kernel_rfl) (by kernel_rfl) (by kernel_rfl) (fun _ _ _ h => h) (Or.inl ⟨by rfl, ?_⟩) (by assumption) ?_
          rotate_left
          · ((intro w hSw); (try dsimp only at hSw); go_simp; (try with_reducible rfl))
          (try simp only [Act.put, List.setIfInBounds_toArray, List.set_cons_zero, List.set_cons_succ])
          refine wpAnyH_take (i := 2) (oi := ⟨some 82, _, _, _, _, _⟩) (v := ?_) rfl (by kernel_rfl) (by kernel_rfl) (by kernel_rfl) (fun _ _ _ h => h) (Or.inl ⟨by rfl, ?_⟩) (by assumption) ?_
          rotate_left
          · ((intro w hSw); (try dsimp only at hSw); go_simp; (try with_reducible rfl))
          (try simp only [Act.put, List.setIfInBounds_toArray, List.set_cons_zero, List.set_cons_succ])
          refine wpAnyH_take (i := 10) (oi := ⟨some 90, _, _, _, _, _⟩) (v := ?_) rfl (by kernel_rfl) (by kernel_rfl) (by kernel_rfl) (fun _ _ _ h => h) (Or.inl ⟨by rfl, ?_⟩) (by assumption) ?_
          rotate_left
          · ((intro w hSw); (try dsimp only at hSw); go_simp; (try with_reducible rfl))
          (try simp only [Act.put, List.setIfInBounds_toArray, List.set_cons_zero, List.set_cons_succ])
          refine wpAnyH_take (i := 18) (oi := ⟨some 98, _, _, _, _, _⟩) (v := ?_) rfl (by kernel_rfl) (by kernel_rfl) (by kernel_rfl) (fun _ _ _ h => h) (Or.inl ⟨by rfl, ?_⟩) (by assumption) ?_
          rotate_left
          · ((intro w hSw); (try dsimp only at hSw); go_simp; (try with_reducible rfl))
          (try simp only [Act.put, List.setIfInBounds_toArray, List.set_cons_zero, List.set_cons_succ])
          refine wpAnyH_take (i := 3) (oi := ⟨some 83, _, _, _, _, _⟩) (v := ?_) rfl (by kernel_rfl) (by kernel_rfl) (by kernel_rfl) (fun _ _ _ h => h) (Or.inl ⟨by rfl, ?_⟩) (by assumption) ?_
          rotate_left
          · ((intro w hSw); (try dsimp only at hSw); go_simp; (try with_reducible rfl))
          (try simp only [Act.put, List.setIfInBounds_toArray, List.set_cons_zero, List.set_cons_succ])
          refine wpAnyH_take (i := 11) (oi := ⟨some 91, _, _, _, _, _⟩) (v := ?_) rfl (by kernel_rfl) (by kernel_rfl) (by kernel_rfl) (fun _ _ _ h => h) (Or.inl ⟨by rfl, ?_⟩) (by assumption) ?_
          rotate_left
          · ((intro w hSw); (try dsimp only at hSw); go_simp; (try with_reducible rfl))
          (try simp only [Act.put, List.setIfInBounds_toArray, List.set_cons_zero, List.set_cons_succ])
          refine wpAnyH_take (i := 19) (oi := ⟨some 99, _, _, _, _, _⟩) (v := ?_) rfl (by kernel_rfl) (by kernel_rfl) (by kernel_rfl) (fun _ _ _ h => h) (Or.inl ⟨by rfl, ?_⟩) (by assumption) ?_
          rotate_left
          · ((intro w hSw); (try dsimp only at hSw); go_simp; (try with_reducible rfl))
          (try simp only [Act.put, List.setIfInBounds_toArray, List.set_cons_zero, List.set_cons_succ])
          refine wpAnyH_take (i := 4) (oi := ⟨some 84, _, _, _, _, _⟩) (v := ?_) rfl (by kernel_rfl) (by kernel_rfl) (by kernel_rfl) (fun _ _ _ h => h) (Or.inl ⟨by rfl, ?_⟩) (by assumption) ?_
          rotate_left
          · ((intro w hSw); (try dsimp only at hSw); go_simp; (try with_reducible rfl))
          (try simp only [Act.put, List.setIfInBounds_toArray, List.set_cons_zero, List.set_cons_succ])
          refine wpAnyH_take (i := 12) (oi := ⟨some 92, _, _, _, _, _⟩) (v := ?_) rfl (by kernel_rfl) (by kernel_rfl) (by kernel_rfl) (fun _ _ _ h => h) (Or.inl ⟨by rfl, ?_⟩) (by assumption) ?_
          rotate_left
          · ((intro w hSw); (try dsimp only at hSw); go_simp; (try with_reducible rfl))
          (try simp only [Act.put, List.setIfInBounds_toArray, List.set_cons_zero, List.set_cons_succ])
          refine wpAnyH_take (i := 20) (oi := ⟨some 100, _, _, _, _, _⟩) (v := ?_) rfl (by kernel_rfl) (by kernel_rfl) (by kernel_rfl) (fun _ _ _ h => h) (Or.inl ⟨by rfl, ?_⟩) (by assumption) ?_
          rotate_left
          · ((intro w hSw); (try dsimp only at hSw); go_simp; (try with_reducible rfl))
          (try simp only [Act.put, List.setIfInBounds_toArray, List.set_cons_zero, List.set_cons_succ])
          refine wpAnyH_take (i := 6) (oi := ⟨some 86, _, _, _, _, _⟩) (v := ?_) rfl (by kernel_rfl) (by kernel_rfl) (by kernel_rfl) (fun _ _ _ h => h) (Or.inl ⟨by rfl, ?_⟩) (by assumption) ?_
          rotate_left
          · ((intro w hSw); (try dsimp only at hSw); go_simp; (try with_reducible rfl))
          (try simp only [Act.put, List.setIfInBounds_toArray, List.set_cons_zero, List.set_cons_succ])
          refine wpAnyH_take (i := 14) (oi := ⟨some 94, _, _, _, _, _⟩) (v := ?_) rfl (by kernel_rfl) (by kernel_rfl) (by kernel_rfl) (fun _ _ _ h => h) (Or.inl ⟨by rfl, ?_⟩) (by assumption) ?_
          rotate_left
          · ((intro w hSw); (try dsimp only at hSw); go_simp; (try with_reducible rfl))
          (try simp only [Act.put, List.setIfInBounds_toArray, List.set_cons_zero, List.set_cons_succ])
          refine wpAnyH_take (i := 22) (oi := ⟨some 102, _, _, _, _, _⟩) (v := ?_) rfl (by kernel_rfl) (by kernel_rfl) (by kernel_rfl) (fun _ _ _ h => h) (Or.inl ⟨by rfl, ?_⟩) (by assumption) ?_
          rotate_left
          · ((intro w hSw); (try dsimp only at hSw); go_simp; (try with_reducible rfl))
          (try simp only [Act.put, List.setIfInBounds_toArray, List.set_cons_zero, List.set_cons_succ])
          refine wpAnyH_take (i := 7) (oi := ⟨some 87, _, _, _, _, _⟩) (v := ?_) rfl (by kernel_rfl) (by kernel_rfl) (by kernel_rfl) (fun _ _ _ h => h) (Or.inl ⟨by rfl, ?_⟩) (by assumption) ?_
          rotate_left
          · ((intro w hSw); (try dsimp only at hSw); go_simp; (try with_reducible rfl))
          (try simp only [Act.put, List.setIfInBounds_toArray, List.set_cons_zero, List.set_cons_succ])
          refine wpAnyH_take (i := 15) (oi := ⟨some 95, _, _, _, _, _⟩) (v := ?_) rfl (by kernel_rfl) (by kernel_rfl) (by kernel_rfl) (fun _ _ _ h => h) (Or.inl ⟨by rfl, ?_⟩) (by assumption) ?_
          rotate_left
          · ((intro w hSw); (try dsimp only at hSw); go_simp; (try with_reducible rfl))
          (try simp only [Act.put, List.setIfInBounds_toArray, List.set_cons_zero, List.set_cons_succ])
          refine wpAnyH_take (i := 23) (oi := ⟨some 103, _, _, _, _, _⟩) (v := ?_) rfl (by kernel_rfl) (by kernel_rfl) (by kernel_rfl) (fun _ _ _ h => h) (Or.inl ⟨by rfl, ?_⟩) (by assumption) ?_
          rotate_left
          · ((intro w hSw); (try dsimp only at hSw); go_simp; (try with_reducible rfl))
          (try simp only [Act.put, List.setIfInBounds_toArray, List.set_cons_zero, List.set_cons_succ])
          refine wpAnyH_ready (rs := [24]) (by kernel_rfl) (by simp) ?_
          refine AllReadyH.cons (o := ⟨some 104, _, _, _, _, _⟩) rfl (fun K hK => ?_) AllReadyH.nil
          go_simp
          refine hK.out _ _ (by (try dsimp only); (exact ⟨Step.of, (bcell (fut _ _)).1⟩)) (fun hHeld => ?_)
          clear hK K
          (try simp only [Act.put, List.setIfInBounds_toArray, List.set_cons_zero, List.set_cons_succ])
          refine wpAnyH_take (i := 25) (oi := ⟨some 15, _, _, _, _, _⟩) (v := ?_) rfl (by kernel_rfl) (by kernel_rfl) (by kernel_rfl) (fun _ _ _ h => h) (Or.inl ⟨by rfl, ?_⟩) (by assumption) ?_
          rotate_left
          · ((intro w hSw); (try dsimp only at hSw); go_simp; (try with_reducible rfl))
          (try simp only [Act.put, List.setIfInBounds_toArray, List.set_cons_zero, List.set_cons_succ])
          refine wpAnyH_done (by kernel_rfl) ?_ _
          go_wp2_with fail
          clear v0 v1 v2 v3 x0 x1 x2 x3 p0 l1 l5
          have HXB := hide (SlAt.of_blk (l := [va, vb, va].map Val.cells) (Blk.new wo [.int .i64 va.kind, .int .i64 va.i, .bool va.b, .string va.s, .int .i64 vb.kind, .int .i64 vb.i, .bool vb.b, .string vb.s, .int .i64 va.kind, .int .i64 va.i, .bool va.b, .string va.s] 73) rfl (vals_fit _).len)
          go_loopw [16] (fun j wr => ∃ m : Nat, m ≤ 3 ∧ j = .int .i64 m ∧ Step (wo.alloc (.cells #[.int .i64 va.kind, .int .i64 va.i, .bool va.b, .string va.s, .int .i64 vb.kind, .int .i64 vb.i, .bool vb.b, .string vb.s, .int .i64 va.kind, .int .i64 va.i, .bool va.b, .string va.s] 73)) wr) (fun j _ => 3 - (intOf j).toNat)
          case atStart => exact ⟨0, by omega, rfl, Step.of⟩
          case round =>
            obtain ⟨m, hm, rfl, hst2⟩ := hrel
            obtain ⟨wi, hwi⟩ : ∃ x : World, x = wr := ⟨_, rfl⟩
            rw [← hwi] at hst2
            rw [← hwi]
            clear hwi
            have hzi := hst2.size
            simp only [hsz] at hzi
            by_cases hlm : m < 3
            · obtain ⟨x, hx⟩ : ∃ x, [va, vb, va][m]? = some x := ⟨_, List.getElem?_eq_getElem (by simpa using hlm)⟩
              have hy : [clean va, clean vb, clean va][m]? = some (clean x) := by
                have : [clean va, clean vb, clean va] = [va, vb, va].map clean := rfl
                rw [this, List.getElem?_map, hx]
                rfl
              obtain ⟨b6, o6, hB6, hb6', hc6⟩ := HOA.out.elem (w' := wi) inferInstance (k := m) (by simpa using hlm)
              obtain ⟨v0, v1, v2, v3⟩ := At.l4 (hc6 m (clean x).cells (by rw [List.getElem?_map, hy]; rfl))
              obtain ⟨b7, o7, hB7, hb7', hc7⟩ := HXB.out.elem (w' := wi) inferInstance (k := m) (by simpa using hlm)
              obtain ⟨x0, x1, x2, x3⟩ := At.l4 (hc7 m x.cells (by rw [List.getElem?_map, hx]; rfl))
              obtain ⟨rfl, rfl⟩ : wo.heap.size = b7 ∧ 0 = o7 := by simpa using hB7
              simp only [Nat.zero_add] at x0 x1 x2 x3
              have hm3 : (m : Int) < 3 := by omega
              have hm0 : (0 : Int) ≤ (m : Int) := by omega
              have l6 : b6 < wi.heap.size := by omega
              have l7 : wo.heap.size < wi.heap.size := by omega
              have u0' : wi.cell? ⟨b2, o2 + k, none⟩ = some (.slice (some ⟨b6, o6, none⟩) 3 o.cap) := by
                rw [← hB6, (bcell (fut wo wi)).1 _ _ l2]; exact u0
              have y0' : wi.cell? ⟨b3, o3 + k, none⟩ = some (.slice n.A 0 n.cap) := by
                rw [(bcell (fut wo wi)).1 _ _ l3]; exact y0
              have l2' : b2 < wi.heap.size := by omega
              have l3' : b3 < wi.heap.size := by omega
              have VCN := hide (vclean_any x)
              unfold Val.val at VCN
              clear hx hy hc6 hc7 hB6 hB7 u0 y0
              go_upto_region 18 with (fail)
              refine wp_region_held_drew (S := (fun w' => Step wi w' ∧ (∀ b o, b < wi.heap.size → w'.cell? ⟨b, o, none⟩ = wi.cell? ⟨b, o, none⟩))) (by kernel_rfl) (by (try dsimp only); (first | exact ⟨hS1, hS2⟩ | exact ⟨Step.of, (bcell (fut _ _)).1⟩)) (fun hHeld => ?_)
              refine wpAnyH_take (i := 0) (oi := ⟨some 109, _, _, _, _, _⟩) (v := ?_) rfl (by kernel_rfl) (by kernel_rfl) (by kernel_rfl) (fun _ _ _ h => h) (Or.inl ⟨by rfl, ?_⟩) (by assumption) ?_
              rotate_left
              · ((intro w hSw); (try dsimp only at hSw); go_simp; (try with_reducible rfl))
              (try simp only [Act.put, List.setIfInBounds_toArray, List.set_cons_zero, List.set_cons_succ])
              refine wpAnyH_take (i := 1) (oi := ⟨some 110, _, _, _, _, _⟩) (v := ?_) rfl (by kernel_rfl) (by kernel_rfl) (by kernel_rfl) (fun _ _ _ h => h) (Or.inl ⟨by rfl, ?_⟩) (by assumption) ?_
              rotate_left
              · ((intro w hSw); (try dsimp only at hSw); go_simp; (try with_reducible rfl))
              (try simp only [Act.put, List.setIfInBounds_toArray, List.set_cons_zero, List.set_cons_succ])
              refine wpAnyH_take (i := 5) (oi := ⟨some 114, _, _, _, _, _⟩) (v := ?_) rfl (by kernel_rfl) (by kernel_rfl) (by kernel_rfl) (fun _ _ _ h => h) (Or.inl ⟨by rfl, ?_⟩) (by assumption) ?_
              rotate_left
              · ((intro w hSw); (try dsimp only at hSw); go_simp; (try with_reducible rfl))
              (try simp only [Act.put, List.setIfInBounds_toArray, List.set_cons_zero, List.set_cons_succ])
              refine wpAnyH_take (i := 8) (oi := ⟨some 117, _, _, _, _, _⟩) (v := ?_) rfl (by kernel_rfl) (by kernel_rfl) (by kernel_rfl) (fun _ _ _ h => h) (Or.inl ⟨by rfl, ?_⟩) (by assumption) ?_
              rotate_left
              · ((intro w hSw); (try dsimp only at hSw); go_simp; (try with_reducible rfl))
              (try simp only [Act.put, List.setIfInBounds_toArray, List.set_cons_zero, List.set_cons_succ])
              refine wpAnyH_take (i := 9) (oi := ⟨some 118, _, _, _, _, _⟩) (v := ?_) rfl (by kernel_rfl) (by kernel_rfl) (by kernel_rfl) (fun _ _ _ h => h) (Or.inl ⟨by rfl, ?_⟩) (by assumption) ?_
              rotate_left
              · ((intro w hSw); (try dsimp only at hSw); go_simp; (try with_reducible rfl))
              (try simp only [Act.put, List.setIfInBounds_toArray, List.set_cons_zero, List.set_cons_succ])
              refine wpAnyH_take (i := 2) (oi := ⟨some 111, _, _, _, _, _⟩) (v := ?_) rfl (by kernel_rfl) (by kernel_rfl) (by kernel_rfl) (fun _ _ _ h => h) (Or.inl ⟨by rfl, ?_⟩) (by assumption) ?_
              rotate_left
              · ((intro w hSw); (try dsimp only at hSw); go_simp; (try with_reducible rfl))
              (try simp only [Act.put, List.setIfInBounds_toArray, List.set_cons_zero, List.set_cons_succ])
              refine wpAnyH_take (i := 10) (oi := ⟨some 119, _, _, _, _, _⟩) (v := ?_) rfl (by kernel_rfl) (by kernel_rfl) (by kernel_rfl) (fun _ _ _ h => h) (Or.inl ⟨by rfl, ?_⟩) (by assumption) ?_
              rotate_left
              · ((intro w hSw); (try dsimp only at hSw); go_simp; (try with_reducible rfl))
              (try simp only [Act.put, List.setIfInBounds_toArray, List.set_cons_zero, List.set_cons_succ])
              refine wpAnyH_take (i := 3) (oi := ⟨some 112, _, _, _, _, _⟩) (v := ?_) rfl (by kernel_rfl) (by kernel_rfl) (by kernel_rfl) (fun _ _ _ h => h) (Or.inl ⟨by rfl, ?_⟩) (by assumption) ?_
              rotate_left
              · ((intro w hSw); (try dsimp only at hSw); go_simp; (try with_reducible rfl))
              (try simp only [Act.put, List.setIfInBounds_toArray, List.set_cons_zero, List.set_cons_succ])
              refine wpAnyH_take (i := 11) (oi := ⟨some 120, _, _, _, _, _⟩) (v := ?_) rfl (by kernel_rfl) (by kernel_rfl) (by kernel_rfl) (fun _ _ _ h => h) (Or.inl ⟨by rfl, ?_⟩) (by assumption) ?_
              rotate_left
              · ((intro w hSw); (try dsimp only at hSw); go_simp; (try with_reducible rfl))
              (try simp only [Act.put, List.setIfInBounds_toArray, List.set_cons_zero, List.set_cons_succ])
              refine wpAnyH_take (i := 4) (oi := ⟨some 113, _, _, _, _, _⟩) (v := ?_) rfl (by kernel_rfl) (by kernel_rfl) (by kernel_rfl) (fun _ _ _ h => h) (Or.inl ⟨by rfl, ?_⟩) (by assumption) ?_
              rotate_left
              · ((intro w hSw); (try dsimp only at hSw); go_simp; (try with_reducible rfl))
              (try simp only [Act.put, List.setIfInBounds_toArray, List.set_cons_zero, List.set_cons_succ])
              refine wpAnyH_take (i := 6) (oi := ⟨some 115, _, _, _, _, _⟩) (v := ?_) rfl (by kernel_rfl) (by kernel_rfl) (by kernel_rfl) (fun _ _ _ h => h) (Or.inl ⟨by rfl, ?_⟩) (by assumption) ?_
              rotate_left
              · ((intro w hSw); (try dsimp only at hSw); go_simp; (try with_reducible rfl))
              (try simp only [Act.put, List.setIfInBounds_toArray, List.set_cons_zero, List.set_cons_succ])
              refine wpAnyH_take (i := 7) (oi := ⟨some 116, _, _, _, _, _⟩) (v := ?_) rfl (by kernel_rfl) (by kernel_rfl) (by kernel_rfl) (fun _ _ _ h => h) (Or.inl ⟨by rfl, ?_⟩) (by assumption) ?_
              rotate_left
              · ((intro w hSw); (try dsimp only at hSw); go_simp; (try with_reducible rfl))
              (try simp only [Act.put, List.setIfInBounds_toArray, List.set_cons_zero, List.set_cons_succ])
              refine wpAnyH_ready (rs := [12]) (by kernel_rfl) (by simp) ?_
              refine AllReadyH.cons (o := ⟨some 121, _, _, _, _, _⟩) rfl (fun K hK => ?_) AllReadyH.nil
              obtain ⟨hS1, hS2⟩ := hHeld
              go_simp
              (go_at_call 44; (with_reducible refine (VCN.out _).mono ?_); rintro e w5 ⟨rfl, hs5⟩)
              refine hK.out _ _ (by (try dsimp only); (first | exact ⟨hS1, hS2⟩ | exact ⟨Step.of, (bcell (fut _ _)).1⟩)) (fun hHeld => ?_)
              clear hK K
              (try simp only [Act.put, List.setIfInBounds_toArray, List.set_cons_zero, List.set_cons_succ])
              refine wpAnyH_take (i := 13) (oi := ⟨some 122, _, _, _, _, _⟩) (v := ?_) rfl (by kernel_rfl) (by kernel_rfl) (by kernel_rfl) (fun _ _ _ h => h) (Or.inl ⟨by rfl, ?_⟩) (by assumption) ?_
              rotate_left
              · ((intro w hSw); (try dsimp only at hSw); go_simp; (try with_reducible rfl))
              (try simp only [Act.put, List.setIfInBounds_toArray, List.set_cons_zero, List.set_cons_succ])
              refine wpAnyH_take (i := 14) (oi := ⟨some 123, _, _, _, _, _⟩) (v := ?_) rfl (by kernel_rfl) (by kernel_rfl) (by kernel_rfl) (fun _ _ _ h => h) (Or.inl ⟨by rfl, ?_⟩) (by assumption) ?_
              rotate_left
              · ((intro w hSw); (try dsimp only at hSw); go_simp; (try with_reducible rfl))
              (try simp only [Act.put, List.setIfInBounds_toArray, List.set_cons_zero, List.set_cons_succ])
              refine wpAnyH_take (i := 15) (oi := ⟨some 124, _, _, _, _, _⟩) (v := ?_) rfl (by kernel_rfl) (by kernel_rfl) (by kernel_rfl) (fun _ _ _ h => h) (Or.inl ⟨by rfl, ?_⟩) (by assumption) ?_
              rotate_left
              · ((intro w hSw); (try dsimp only at hSw); go_simp; (try with_reducible rfl))
              (try simp only [Act.put, List.setIfInBounds_toArray, List.set_cons_zero, List.set_cons_succ])
              refine wpAnyH_take (i := 16) (oi := ⟨some 125, _, _, _, _, _⟩) (v := ?_) rfl (by kernel_rfl) (by kernel_rfl) (by kernel_rfl) (fun _ _ _ h => h) (Or.inl ⟨by rfl, ?_⟩) (by assumption) ?_
              rotate_left
              · ((intro w hSw); (try dsimp only at hSw); go_simp; (try with_reducible rfl))
              (try simp only [Act.put, List.setIfInBounds_toArray, List.set_cons_zero, List.set_cons_succ])
              refine wpAnyH_take (i := 17) (oi := ⟨some 126, _, _, _, _, _⟩) (v := ?_) rfl (by kernel_rfl) (by kernel_rfl) (by kernel_rfl) (fun _ _ _ h => h) (Or.inl ⟨by rfl, ?_⟩) (by assumption) ?_
              rotate_left
              · ((intro w hSw); (try dsimp only at hSw); go_simp; (try with_reducible rfl))
              (try simp only [Act.put, List.setIfInBounds_toArray, List.set_cons_zero, List.set_cons_succ])
              refine wpAnyH_take (i := 18) (oi := ⟨some 127, _, _, _, _, _⟩) (v := ?_) rfl (by kernel_rfl) (by kernel_rfl) (by kernel_rfl) (fun _ _ _ h => h) (Or.inl ⟨by rfl, ?_⟩) (by assumption) ?_
              rotate_left
              · ((intro w hSw); (try dsimp only at hSw); go_simp; (try with_reducible rfl))
              (try simp only [Act.put, List.setIfInBounds_toArray, List.set_cons_zero, List.set_cons_succ])
              refine wpAnyH_take (i := 19) (oi := ⟨some 128, _, _, _, _, _⟩) (v := ?_) rfl (by kernel_rfl) (by kernel_rfl) (by kernel_rfl) (fun _ _ _ h => h) (Or.inl ⟨by rfl, ?_⟩) (by assumption) ?_
              rotate_left
              · ((intro w hSw); (try dsimp only at hSw); go_simp; (try with_reducible rfl))
              (try simp only [Act.put, List.setIfInBounds_toArray, List.set_cons_zero, List.set_cons_succ])
              refine wpAnyH_take (i := 20) (oi := ⟨some 129, _, _, _, _, _⟩) (v := ?_) rfl (by kernel_rfl) (by kernel_rfl) (by kernel_rfl) (fun _ _ _ h => h) (Or.inl ⟨by rfl, ?_⟩) (by assumption) ?_
              rotate_left
              · ((intro w hSw); (try dsimp only at hSw); go_simp; (try with_reducible rfl))
              (try simp only [Act.put, List.setIfInBounds_toArray, List.set_cons_zero, List.set_cons_succ])
              refine wpAnyH_take (i := 21) (oi := ⟨some 130, _, _, _, _, _⟩) (v := ?_) rfl (by kernel_rfl) (by kernel_rfl) (by kernel_rfl) (fun _ _ _ h => h) (Or.inl ⟨by rfl, ?_⟩) (by assumption) ?_
              rotate_left
              · ((intro w hSw); (try dsimp only at hSw); go_simp; (try with_reducible rfl))
              (try simp only [Act.put, List.setIfInBounds_toArray, List.set_cons_zero, List.set_cons_succ])
              refine wpAnyH_take (i := 22) (oi := ⟨some 131, _, _, _, _, _⟩) (v := ?_) rfl (by kernel_rfl) (by kernel_rfl) (by kernel_rfl) (fun _ _ _ h => h) (Or.inl ⟨by rfl, ?_⟩) (by assumption) ?_
              rotate_left
              · ((intro w hSw); (try dsimp only at hSw); go_simp; (try with_reducible rfl))
              (try simp only [Act.put, List.setIfInBounds_toArray, List.set_cons_zero, List.set_cons_succ])
              refine wpAnyH_done (by kernel_rfl) ?_ _
              go_wp2_with fail
              go_roundw
              case rel => exact ⟨m + 1, by omega, by go_num, Step.of⟩
              case measure => simp [intOf]; omega
            · obtain rfl : m = 3 := by omega
              go_wp2_with fail
              go_roundw
              case rel => exact ⟨k + 1, by omega, by go_num, Step.of⟩
              case measure => simp [intOf]; omega
        · obtain rfl : k = rs.length := by omega
          go_wp2_with (go_at_call 22; refine (num_any _ _).mono ?_; rintro e w' ⟨rfl, rfl⟩)
          go_ret
          exact ⟨rfl, Step.of⟩
    · have hE : Hid (os1 = []) := by
        show _ = _
        refine len_nil ?_
        rw [ho1, ← HT.out]
        exact pickR_bad (by rw [HT.out]; exact he)
      have heb : (T.2 != 0) = true := by simpa using he
      have hl0 : ((os1.length : Int) == 0) = true := by rw [hE.out]; rfl
      clear he
      go_wp2_with (go_at_call 22; refine (num_any _ _).mono ?_; rintro e w' ⟨rfl, rfl⟩)
      go_ret
      exact ⟨rfl, Step.of⟩
end Go.Proofs.YtfojdjmeefglcaaDoor
