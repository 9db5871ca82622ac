/-
  The document's leaf: a node's set by its column's statistics.
-/
import Derived.Test.YtcgpfllkbflbhaaGreatDoorUa
import Derived.Test.YtcgpfllkbflbhaaGreatDoorPn
namespace Go.Proofs.YtcgpfllkbflbhaaGreatDoor
open Go.RowKit

/-- The first place from m on that is taken. -/
def lastFrom {α : Type} (p : α → Bool) (l : List α) (m : Nat) : Int := if 0 ≤ idx p (l.drop m) then idx p (l.drop m) + m else -1
theorem lastFrom_end {α : Type} (p : α → Bool) (l : List α) : lastFrom p l l.length = -1 := by simp [lastFrom, idx]
theorem lastFrom_zero {α : Type} (p : α → Bool) (l : List α) : lastFrom p l 0 = idx p l := by
  unfold lastFrom
  rcases idx_cases p (l.drop 0) with h | ⟨j, h, _⟩
  · rw [h, if_neg (by decide)]; rw [List.drop_zero] at h; exact h.symm
  · rw [h, if_pos (by omega)]; rw [List.drop_zero] at h; rw [h]; simp
theorem idx_cons {α : Type} (p : α → Bool) (x : α) (r : List α) : idx p (x :: r) = if p x then 0 else if 0 ≤ idx p r then idx p r + 1 else -1 := by
  unfold idx
  rw [List.findIdx_cons]
  cases hx : p x with
  | true => simp
  | false =>
    simp only [cond_false, List.length_cons, Bool.false_eq_true, if_false]
    by_cases h : r.findIdx p < r.length
    · rw [if_pos (by omega), if_pos h, if_pos (by omega)]; omega
    · rw [if_neg (by omega), if_neg h, if_neg (by decide)]
theorem lastFrom_step {α : Type} (p : α → Bool) (l : List α) (m : Nat) (x : α) (h : l[m]? = some x) : lastFrom p l m = if p x then (m : Int) else lastFrom p l (m + 1) := by
  have hm := (List.getElem?_eq_some_iff.1 h).1
  have hd : l.drop m = x :: l.drop (m + 1) := by
    rw [List.drop_eq_getElem_cons hm, (List.getElem?_eq_some_iff.1 h).2]
  unfold lastFrom
  rw [hd, idx_cons]
  cases p x with
  | true => simp
  | false =>
    simp only [Bool.false_eq_true, if_false]
    rcases idx_cases p (l.drop (m + 1)) with h | ⟨j, h, _⟩
    · rw [h]; rfl
    · rw [h, if_pos (by omega), if_pos (by omega)]; push_cast; omega

theorem leafS_hit {id rows : Int} {sts : List Sta} {n : Nod} {j : Nat} {t : Sta} (hi : idx (statOf id) sts = (j : Int)) (ht : sts[j]? = some t) : leafS id sts rows n = toldS n t rows := by
  obtain ⟨e, h⟩ := idx_yes (p := statOf id) (l := sts) (by omega)
  have e2 : sts.findIdx (statOf id) = j := by omega
  rw [leafS, if_pos (by omega), e2, List.getD_eq_getElem?_getD, ht]
  rfl
theorem leafS_miss {id rows : Int} {sts : List Sta} {n : Nod} (hi : idx (statOf id) sts = -1) : leafS id sts rows n = if n.kind = 2 then 2 else 4 := by
  rw [leafS, if_neg (by omega)]

set_option maxRecDepth 100000 in
set_option maxHeartbeats 8000000 in
theorem rleaf_any {w0 : World} (x : Nod) (sts : List Sta) (At_ : Option Addr) (ct : Nat) (id rows : Int) (w : World) (ht : SlAt w0 w0.heap.size 10 At_ (sts.map Sta.cells)) [f0 : Fut w0 w] (htl : sts.length ≤ 4611686018427387904)
    (hcm : x.kind = 2 ∨ (0 ≤ x.cmp ∧ x.cmp ≤ 5)) (hss : ∀ t ∈ sts, t.mn.s.size ≤ 9223372036854775807 ∧ t.mx.s.size ≤ 9223372036854775807) (hxs : x.v.s.size ≤ 9223372036854775807) :
    Calls Tryz.prog 30 #[.agg #[.int .i64 x.kind, .string x.col, .int .i64 x.cmp, .int .i64 x.v.kind, .int .i64 x.v.i, .bool x.v.b, .string x.v.s, .int .i64 x.l, .int .i64 x.r], .slice At_ sts.length ct, .int .i64 id, .int .i64 rows] w fun e w' => e = .returned (.int .i64 ((leafS id sts rows x : Nat) : Int)) ∧ Step w w' := by
  have z0 := f0.below.size
  have HSS := hide hss; have HCM := hide hcm
  clear hss hcm
  obtain ⟨R, hR⟩ : ∃ R, leafS id sts rows x = R := ⟨_, rfl⟩
  have HR := hide hR
  rw [hR]
  clear hR
  obtain ⟨W, hW⟩ : ∃ W, W = w.alloc (.cells #[.int .i64 x.kind, .string x.col, .int .i64 x.cmp, .int .i64 x.v.kind, .int .i64 x.v.i, .bool x.v.b, .string x.v.s, .int .i64 x.l, .int .i64 x.r] 66) := ⟨_, rfl⟩
  have SW : Step w W := by rw [hW]; exact Step.of
  have HXB : Hid (Blk W w.heap.size 66 [.int .i64 x.kind, .string x.col, .int .i64 x.cmp, .int .i64 x.v.kind, .int .i64 x.v.i, .bool x.v.b, .string x.v.s, .int .i64 x.l, .int .i64 x.r]) := by rw [hW]; exact Blk.new w [.int .i64 x.kind, .string x.col, .int .i64 x.cmp, .int .i64 x.v.kind, .int .i64 x.v.i, .bool x.v.b, .string x.v.s, .int .i64 x.l, .int .i64 x.r] 66
  have HW := hide hW
  have hzW := SW.size
  clear hW
  have hsub : IntKind.i64.wrap ((sts.length : Int) - 1) = (sts.length : Int) - 1 := by rw [IntKind.wrap_i64]; omega
  go_enter Tryz.func30, Tryz.ntmps30
  go_upto_region 1 with (fail)
  rw [← HW.out]
  go_wp2_with fail
  go_loop [9, 10] (fun k i => ∃ m : Nat, m ≤ sts.length ∧ i = .int .i64 ((m : Int) - 1) ∧ k = .int .i64 (lastFrom (statOf id) sts m)) (fun _ i => (intOf i + 1).toNat)
  case atStart => exact ⟨sts.length, Nat.le_refl _, rfl, by rw [lastFrom_end]⟩
  case round =>
    obtain ⟨m, hm, rfl, rfl⟩ := hrel
    clear hsub
    by_cases hm0 : 0 < m
    · obtain ⟨m, rfl⟩ : ∃ m', m = m' + 1 := ⟨m - 1, by omega⟩
      obtain ⟨b, off, rfl, hb, hc⟩ := ht.elem (w' := W) inferInstance (k := m) (by simp; omega)
      obtain ⟨t, htk⟩ : ∃ t, sts[m]? = some t := ⟨_, List.getElem?_eq_getElem (by omega)⟩
      obtain ⟨s0, s1, s2, s3, s4, s5, s6, s7, s8, s9⟩ := At.l10 (hc m t.cells (by simp [htk]))
      have hlb : b < W.heap.size := by omega
      have HST := hide (lastFrom_step (statOf id) sts m t htk)
      have hpe : statOf id t = (t.col == id) := rfl
      clear hc htk
      have hi0 : ((m + 1 : Nat) : Int) - 1 = (m : Int) := by omega
      rw [hi0]
      have hi1 : (0 : Int) ≤ (m : Int) := by omega
      have hi2 : (m : Int) < (sts.length : Int) := by omega
      have hwr : IntKind.i64.wrap ((m : Int) - 1) = (m : Int) - 1 := by rw [IntKind.wrap_i64]; omega
      clear hi0 hm0
      obtain ⟨q, hq⟩ : ∃ q, (t.col == id) = q := ⟨_, rfl⟩
      have HQ : Hid (statOf id t = q) := by show _ = _; rw [hpe, hq]
      cases q
      · go_wp2_with fail
        go_round
        case rel => exact ⟨m, by omega, rfl, by rw [HST.out, HQ.out]; rfl⟩
        case measure => simp [intOf] <;> omega
      · go_wp2_with fail
        go_round
        case rel => exact ⟨m, by omega, rfl, by rw [HST.out, HQ.out]; rfl⟩
        case measure => simp [intOf] <;> omega
    · obtain rfl : m = 0 := by omega
      clear hm0 hm
      rw [lastFrom_zero]
      obtain ⟨a0, a1, a2, a3, a4, a5, a6, a7, a8⟩ := At.z9 HXB.out.at0; have la := HXB.out.lt
      have RS := hide (fun a b c w' => rset_any a b c w')
      rcases idx_cases (statOf id) sts with hi | ⟨j, hi, hj⟩
      · have HM := hide (leafS_miss (n := x) (rows := rows) hi)
        rw [hi]
        clear hi
        by_cases hk : x.kind = 2
        · obtain rfl : R = 2 := by rw [← HR.out, HM.out, if_pos hk]
          have e2 : (x.kind == 2) = true := by simpa using hk
          clear hk HM HR
          go_wp2_with fail
          go_ret
          exact ⟨rfl, Step.of⟩
        · obtain rfl : R = 4 := by rw [← HR.out, HM.out, if_neg hk]
          have e2 : (x.kind == 2) = false := by simpa using hk
          clear hk HM HR
          go_wp2_with fail
          go_ret
          exact ⟨rfl, Step.of⟩
      · obtain ⟨t, htk⟩ : ∃ t, sts[j]? = some t := ⟨_, List.getElem?_eq_getElem hj⟩
        have HM := hide (leafS_hit (n := x) (rows := rows) hi htk)
        obtain ⟨b, off, rfl, hb, hc⟩ := ht.elem (w' := W) inferInstance (k := j) (by simpa using hj)
        have HAT := hide (hc j t.cells (by simp [htk]))
        obtain ⟨s0, s1, s2, s3, s4, s5, s6, s7, s8, s9⟩ := At.l10 HAT.out
        have hlb : b < W.heap.size := by omega
        have hts := HSS.out t (List.mem_of_getElem? htk)
        rw [hi]
        clear hi hc htk
        have hj0 : (0 : Int) ≤ (j : Int) := by omega
        have hj0' : ¬ (j : Int) < 0 := by omega
        have hj1 : (j : Int) < (sts.length : Int) := by omega
        by_cases hk : x.kind = 2
        · obtain rfl : R = setR (decide (t.nulls < rows)) (decide (0 < t.nulls)) false := by rw [← HR.out, HM.out, told_null t rows hk]
          have e2 : (x.kind == 2) = true := by simpa using hk
          clear hk HM HR
          go_upto_region 13 with (fail)
          go_quiet ((go_at_call 59; exact Calls.quiet_of_same ((RS.out _ _ _ _).mono fun _ _ h => ⟨h.1, h.2.symm⟩)))
          go_wp2_with fail
          go_ret
          exact ⟨rfl, Step.of⟩
        · have e2 : (x.kind == 2) = false := by simpa using hk
          by_cases hn : t.nulls < rows
          · have hc5 : 0 ≤ x.cmp ∧ x.cmp ≤ 5 := by rcases HCM.out with h | h; exact absurd h hk; exact h
            have CM1 := hide (fun w' => rcmp_any t.mn x.v w' hts.1 hxs)
            have CM2 := hide (fun w' => rcmp_any t.mx x.v w' hts.2 hxs)
            obtain ⟨lo, hlo⟩ : ∃ lo, cmpV t.mn x.v = lo := ⟨_, rfl⟩
            obtain ⟨hi_, hhi⟩ : ∃ hi_, cmpV t.mx x.v = hi_ := ⟨_, rfl⟩
            obtain rfl : R = setR (cmpY (oppC x.cmp) lo hi_) (cmpY x.cmp lo hi_) (decide (0 < t.nulls)) := by rw [← HR.out, HM.out, told_cmp t rows hk hc5 hn, hlo, hhi]
            rw [hlo] at CM1
            rw [hhi] at CM2
            have CS := hide (fun w' => rcmpSet_any x.cmp lo hi_ w' hc5.1 hc5.2)
            unfold Val.val at CM1 CM2
            clear hlo hhi
            clear hk HM HR hc5
            go_upto_region 16 with (fail)
            refine wp_region_held_drew (S := (fun w' => Step W w' ∧ (∀ b o, b < W.heap.size → w'.cell? ⟨b, o, none⟩ = W.cell? ⟨b, o, none⟩))) (by kernel_rfl) (by (try dsimp only); (first | exact ⟨hS1, hS2⟩ | exact ⟨Step.of, (bcell (fut _ _)).1⟩)) (fun hHeld => ?_)
            refine wpAnyH_take (i := 0) (oi := ⟨some 58, _, _, _, _, _⟩) (v := ?_) rfl (by kernel_rfl) (by kernel_rfl) (by kernel_rfl) (fun _ _ _ h => h) (Or.inl ⟨by rfl, ?_⟩) (by assumption) ?_
            rotate_left
            · ((intro w hSw); (try dsimp only at hSw); go_simp; (try with_reducible rfl))
            (try simp only [Act.put, List.setIfInBounds_toArray, List.set_cons_zero, List.set_cons_succ])
            refine wpAnyH_take (i := 1) (oi := ⟨some 59, _, _, _, _, _⟩) (v := ?_) rfl (by kernel_rfl) (by kernel_rfl) (by kernel_rfl) (fun _ _ _ h => h) (Or.inl ⟨by rfl, ?_⟩) (by assumption) ?_
            rotate_left
            · ((intro w hSw); (try dsimp only at hSw); go_simp; (try with_reducible rfl))
            (try simp only [Act.put, List.setIfInBounds_toArray, List.set_cons_zero, List.set_cons_succ])
            refine wpAnyH_take (i := 2) (oi := ⟨some 60, _, _, _, _, _⟩) (v := ?_) rfl (by kernel_rfl) (by kernel_rfl) (by kernel_rfl) (fun _ _ _ h => h) (Or.inl ⟨by rfl, ?_⟩) (by assumption) ?_
            rotate_left
            · ((intro w hSw); (try dsimp only at hSw); go_simp; (try with_reducible rfl))
            (try simp only [Act.put, List.setIfInBounds_toArray, List.set_cons_zero, List.set_cons_succ])
            refine wpAnyH_take (i := 3) (oi := ⟨some 61, _, _, _, _, _⟩) (v := ?_) rfl (by kernel_rfl) (by kernel_rfl) (by kernel_rfl) (fun _ _ _ h => h) (Or.inl ⟨by rfl, ?_⟩) (by assumption) ?_
            rotate_left
            · ((intro w hSw); (try dsimp only at hSw); go_simp; (try with_reducible rfl))
            (try simp only [Act.put, List.setIfInBounds_toArray, List.set_cons_zero, List.set_cons_succ])
            refine wpAnyH_take (i := 4) (oi := ⟨some 62, _, _, _, _, _⟩) (v := ?_) rfl (by kernel_rfl) (by kernel_rfl) (by kernel_rfl) (fun _ _ _ h => h) (Or.inl ⟨by rfl, ?_⟩) (by assumption) ?_
            rotate_left
            · ((intro w hSw); (try dsimp only at hSw); go_simp; (try with_reducible rfl))
            (try simp only [Act.put, List.setIfInBounds_toArray, List.set_cons_zero, List.set_cons_succ])
            refine wpAnyH_take (i := 5) (oi := ⟨some 63, _, _, _, _, _⟩) (v := ?_) rfl (by kernel_rfl) (by kernel_rfl) (by kernel_rfl) (fun _ _ _ h => h) (Or.inl ⟨by rfl, ?_⟩) (by assumption) ?_
            rotate_left
            · ((intro w hSw); (try dsimp only at hSw); go_simp; (try with_reducible rfl))
            (try simp only [Act.put, List.setIfInBounds_toArray, List.set_cons_zero, List.set_cons_succ])
            refine wpAnyH_take (i := 6) (oi := ⟨some 64, _, _, _, _, _⟩) (v := ?_) rfl (by kernel_rfl) (by kernel_rfl) (by kernel_rfl) (fun _ _ _ h => h) (Or.inl ⟨by rfl, ?_⟩) (by assumption) ?_
            rotate_left
            · ((intro w hSw); (try dsimp only at hSw); go_simp; (try with_reducible rfl))
            (try simp only [Act.put, List.setIfInBounds_toArray, List.set_cons_zero, List.set_cons_succ])
            refine wpAnyH_take (i := 7) (oi := ⟨some 65, _, _, _, _, _⟩) (v := ?_) rfl (by kernel_rfl) (by kernel_rfl) (by kernel_rfl) (fun _ _ _ h => h) (Or.inl ⟨by rfl, ?_⟩) (by assumption) ?_
            rotate_left
            · ((intro w hSw); (try dsimp only at hSw); go_simp; (try with_reducible rfl))
            (try simp only [Act.put, List.setIfInBounds_toArray, List.set_cons_zero, List.set_cons_succ])
            refine wpAnyH_take (i := 8) (oi := ⟨some 66, _, _, _, _, _⟩) (v := ?_) rfl (by kernel_rfl) (by kernel_rfl) (by kernel_rfl) (fun _ _ _ h => h) (Or.inl ⟨by rfl, ?_⟩) (by assumption) ?_
            rotate_left
            · ((intro w hSw); (try dsimp only at hSw); go_simp; (try with_reducible rfl))
            (try simp only [Act.put, List.setIfInBounds_toArray, List.set_cons_zero, List.set_cons_succ])
            refine wpAnyH_take (i := 10) (oi := ⟨some 68, _, _, _, _, _⟩) (v := ?_) rfl (by kernel_rfl) (by kernel_rfl) (by kernel_rfl) (fun _ _ _ h => h) (Or.inl ⟨by rfl, ?_⟩) (by assumption) ?_
            rotate_left
            · ((intro w hSw); (try dsimp only at hSw); go_simp; (try with_reducible rfl))
            (try simp only [Act.put, List.setIfInBounds_toArray, List.set_cons_zero, List.set_cons_succ])
            refine wpAnyH_take (i := 11) (oi := ⟨some 69, _, _, _, _, _⟩) (v := ?_) rfl (by kernel_rfl) (by kernel_rfl) (by kernel_rfl) (fun _ _ _ h => h) (Or.inl ⟨by rfl, ?_⟩) (by assumption) ?_
            rotate_left
            · ((intro w hSw); (try dsimp only at hSw); go_simp; (try with_reducible rfl))
            (try simp only [Act.put, List.setIfInBounds_toArray, List.set_cons_zero, List.set_cons_succ])
            refine wpAnyH_take (i := 12) (oi := ⟨some 70, _, _, _, _, _⟩) (v := ?_) rfl (by kernel_rfl) (by kernel_rfl) (by kernel_rfl) (fun _ _ _ h => h) (Or.inl ⟨by rfl, ?_⟩) (by assumption) ?_
            rotate_left
            · ((intro w hSw); (try dsimp only at hSw); go_simp; (try with_reducible rfl))
            (try simp only [Act.put, List.setIfInBounds_toArray, List.set_cons_zero, List.set_cons_succ])
            refine wpAnyH_take (i := 13) (oi := ⟨some 71, _, _, _, _, _⟩) (v := ?_) rfl (by kernel_rfl) (by kernel_rfl) (by kernel_rfl) (fun _ _ _ h => h) (Or.inl ⟨by rfl, ?_⟩) (by assumption) ?_
            rotate_left
            · ((intro w hSw); (try dsimp only at hSw); go_simp; (try with_reducible rfl))
            (try simp only [Act.put, List.setIfInBounds_toArray, List.set_cons_zero, List.set_cons_succ])
            refine wpAnyH_take (i := 14) (oi := ⟨some 72, _, _, _, _, _⟩) (v := ?_) rfl (by kernel_rfl) (by kernel_rfl) (by kernel_rfl) (fun _ _ _ h => h) (Or.inl ⟨by rfl, ?_⟩) (by assumption) ?_
            rotate_left
            · ((intro w hSw); (try dsimp only at hSw); go_simp; (try with_reducible rfl))
            (try simp only [Act.put, List.setIfInBounds_toArray, List.set_cons_zero, List.set_cons_succ])
            refine wpAnyH_take (i := 15) (oi := ⟨some 73, _, _, _, _, _⟩) (v := ?_) rfl (by kernel_rfl) (by kernel_rfl) (by kernel_rfl) (fun _ _ _ h => h) (Or.inl ⟨by rfl, ?_⟩) (by assumption) ?_
            rotate_left
            · ((intro w hSw); (try dsimp only at hSw); go_simp; (try with_reducible rfl))
            (try simp only [Act.put, List.setIfInBounds_toArray, List.set_cons_zero, List.set_cons_succ])
            refine wpAnyH_take (i := 16) (oi := ⟨some 74, _, _, _, _, _⟩) (v := ?_) rfl (by kernel_rfl) (by kernel_rfl) (by kernel_rfl) (fun _ _ _ h => h) (Or.inl ⟨by rfl, ?_⟩) (by assumption) ?_
            rotate_left
            · ((intro w hSw); (try dsimp only at hSw); go_simp; (try with_reducible rfl))
            (try simp only [Act.put, List.setIfInBounds_toArray, List.set_cons_zero, List.set_cons_succ])
            refine wpAnyH_ready (rs := [9]) (by kernel_rfl) (by simp) ?_
            refine AllReadyH.cons (o := ⟨some 67, _, _, _, _, _⟩) rfl (fun K hK => ?_) AllReadyH.nil
            obtain ⟨hS1, hS2⟩ := hHeld
            go_simp
            (go_at_call 42; (with_reducible refine (CM1.out _).mono ?_); rintro e w3 ⟨rfl, hs3⟩)
            refine hK.out _ _ (by (try dsimp only); (first | exact ⟨hS1, hS2⟩ | exact ⟨Step.of, (bcell (fut _ _)).1⟩)) (fun hHeld => ?_)
            clear hK K
            (try simp only [Act.put, List.setIfInBounds_toArray, List.set_cons_zero, List.set_cons_succ])
            refine wpAnyH_ready (rs := [17]) (by kernel_rfl) (by simp) ?_
            refine AllReadyH.cons (o := ⟨some 75, _, _, _, _, _⟩) rfl (fun K hK => ?_) AllReadyH.nil
            obtain ⟨hS1, hS2⟩ := hHeld
            go_simp
            (go_at_call 42; (with_reducible refine (CM2.out _).mono ?_); rintro e w4 ⟨rfl, hs4⟩)
            refine hK.out _ _ (by (try dsimp only); (first | exact ⟨hS1, hS2⟩ | exact ⟨Step.of, (bcell (fut _ _)).1⟩)) (fun hHeld => ?_)
            clear hK K
            (try simp only [Act.put, List.setIfInBounds_toArray, List.set_cons_zero, List.set_cons_succ])
            refine wpAnyH_ready (rs := [18]) (by kernel_rfl) (by simp) ?_
            refine AllReadyH.cons (o := ⟨some 76, _, _, _, _, _⟩) rfl (fun K hK => ?_) AllReadyH.nil
            obtain ⟨hS1, hS2⟩ := hHeld
            go_simp
            (go_at_call 60; (with_reducible refine (CS.out _).mono ?_); rintro e w' ⟨rfl, rfl⟩)
            refine hK.out _ _ (by (try dsimp only); (first | exact ⟨hS1, hS2⟩ | exact ⟨Step.of, (bcell (fut _ _)).1⟩)) (fun hHeld => ?_)
            clear hK K
            (try simp only [Act.put, List.setIfInBounds_toArray, List.set_cons_zero, List.set_cons_succ])
            refine wpAnyH_take (i := 19) (oi := ⟨some 57, _, _, _, _, _⟩) (v := ?_) rfl (by kernel_rfl) (by kernel_rfl) (by kernel_rfl) (fun _ _ _ h => h) (Or.inl ⟨by rfl, ?_⟩) (by assumption) ?_
            rotate_left
            · ((intro w hSw); (try dsimp only at hSw); go_simp; (try with_reducible rfl))
            (try simp only [Act.put, List.setIfInBounds_toArray, List.set_cons_zero, List.set_cons_succ])
            refine wpAnyH_take (i := 20) (oi := ⟨some 77, _, _, _, _, _⟩) (v := ?_) rfl (by kernel_rfl) (by kernel_rfl) (by kernel_rfl) (fun _ _ _ h => h) (Or.inl ⟨by rfl, ?_⟩) (by assumption) ?_
            rotate_left
            · ((intro w hSw); (try dsimp only at hSw); go_simp; (try with_reducible rfl))
            (try simp only [Act.put, List.setIfInBounds_toArray, List.set_cons_zero, List.set_cons_succ])
            refine wpAnyH_take (i := 21) (oi := ⟨some 78, _, _, _, _, _⟩) (v := ?_) rfl (by kernel_rfl) (by kernel_rfl) (by kernel_rfl) (fun _ _ _ h => h) (Or.inl ⟨by rfl, ?_⟩) (by assumption) ?_
            rotate_left
            · ((intro w hSw); (try dsimp only at hSw); go_simp; (try with_reducible rfl))
            (try simp only [Act.put, List.setIfInBounds_toArray, List.set_cons_zero, List.set_cons_succ])
            refine wpAnyH_take (i := 22) (oi := ⟨some 12, _, _, _, _, _⟩) (v := ?_) rfl (by kernel_rfl) (by kernel_rfl) (by kernel_rfl) (fun _ _ _ h => h) (Or.inl ⟨by rfl, ?_⟩) (by assumption) ?_
            rotate_left
            · ((intro w hSw); (try dsimp only at hSw); go_simp; (try with_reducible rfl))
            (try simp only [Act.put, List.setIfInBounds_toArray, List.set_cons_zero, List.set_cons_succ])
            refine wpAnyH_take (i := 23) (oi := ⟨some 13, _, _, _, _, _⟩) (v := ?_) rfl (by kernel_rfl) (by kernel_rfl) (by kernel_rfl) (fun _ _ _ h => h) (Or.inl ⟨by rfl, ?_⟩) (by assumption) ?_
            rotate_left
            · ((intro w hSw); (try dsimp only at hSw); go_simp; (try with_reducible rfl))
            (try simp only [Act.put, List.setIfInBounds_toArray, List.set_cons_zero, List.set_cons_succ])
            refine wpAnyH_done (by kernel_rfl) ?_ _
            obtain ⟨hS1, hS2⟩ := hHeld
            clear s0 s1 s2 s3 s4 s5 s6 s7 s8 s9 hlb hS2 a0 a1 a2 a3 a4 a5 a6 a7 a8 la
            have z4 := hS1.size
            obtain ⟨s0, s1, s2, s3, s4, s5, s6, s7, s8, s9⟩ := At.l10 (HAT.out.below (fut W w4) (by omega))
            have hlb : b < w4.heap.size := by omega
            go_wp2_with (go_at_call 59; refine (RS.out _ _ _ _).mono ?_; rintro e w' ⟨rfl, rfl⟩)
            go_ret
            exact ⟨rfl, Step.of⟩
          · obtain rfl : R = setR false false (decide (0 < t.nulls)) := by rw [← HR.out, HM.out, told_none t rows hk hn]
            clear hk HM HR
            go_wp2_with (go_at_call 59; refine (RS.out _ _ _ _).mono ?_; rintro e w' ⟨rfl, rfl⟩)
            go_ret
            exact ⟨rfl, Step.of⟩
end Go.Proofs.YtcgpfllkbflbhaaGreatDoor
