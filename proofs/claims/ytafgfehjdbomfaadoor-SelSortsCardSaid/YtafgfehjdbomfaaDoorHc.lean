/-
  The document's RowCmp.
-/
import Derived.Test.YtafgfehjdbomfaaDoorHl
namespace Go.Proofs.YtafgfehjdbomfaaDoor
open Go.RowKit

def cmpL (a b : List Val) : Int := if lessL a b then -1 else if lessL b a then 1 else 0
theorem cmpL_cons {x y : Val} {a b : List Val} : cmpL (x :: a) (y :: b) = if cmpV x y = 0 then cmpL a b else cmpV x y := by
  unfold cmpL
  rw [lessL_cons, lessL_cons]
  cases h1 : lessV x y with
  | true => rw [cmpV_lt h1]; simp
  | false =>
    cases h2 : lessV y x with
    | true => rw [cmpV_gt h2]; simp
    | false => rw [cmpV_eq h1 h2]; simp
theorem cmpL_end {a b : List Val} {k : Nat} (h : a.length ≤ k ∨ b.length ≤ k) (ha : k ≤ a.length) (hb : k ≤ b.length) : cmpL (a.drop k) (b.drop k) = if a.length < b.length then -1 else if b.length < a.length then 1 else 0 := by
  unfold cmpL
  rw [lessL_end h ha hb, lessL_end h.symm hb ha]
  by_cases h1 : a.length < b.length
  · rw [if_pos h1, if_pos (by simp; omega)]
  · rw [if_neg h1, if_neg (by simp; omega)]
    by_cases h2 : b.length < a.length
    · rw [if_pos h2, if_pos (by simp; omega)]
    · rw [if_neg h2, if_neg (by simp; omega)]
set_option maxRecDepth 100000 in
set_option maxHeartbeats 8000000 in
theorem rrowcmp_any {w1 w2 : World} (a b : RowA) (w : World) (ha : RowIn w1 a) (hb : RowIn w2 b) [f1 : Fut w1 w] [f2 : Fut w2 w] :
    Calls Tryd.prog 26 #[.agg #[.slice a.A a.vs.length a.cap], .agg #[.slice b.A b.vs.length b.cap]] w fun e w' => e = .returned (.int .i64 (cmpL a.vs b.vs)) ∧ Step w w' := by
  have z1 := f1.below.size; have z2 := f2.below.size
  have ham := ha.hcapm; have hbm := hb.hcapm
  obtain ⟨W, hW⟩ : ∃ W, W = (w.alloc (.cells #[.slice a.A a.vs.length a.cap] 54)).alloc (.cells #[.slice b.A b.vs.length b.cap] 54) := ⟨_, rfl⟩
  have SW : Step w W := by rw [hW]; exact Step.of
  have HAB : Hid (Blk W w.heap.size 54 [.slice a.A a.vs.length a.cap]) := by rw [hW]; exact (Blk.new w [.slice a.A a.vs.length a.cap] 54).alloc _
  have HBB : Hid (Blk W (w.heap.size + 1) 54 [.slice b.A b.vs.length b.cap]) := by rw [hW]; exact Blk.new_at (by simp) [.slice b.A b.vs.length b.cap] 54
  have HW := hide hW
  have hzW := SW.size
  have hlW := HBB.out.lt
  clear hW
  obtain ⟨T, hT⟩ : ∃ T, cmpL a.vs b.vs = T := ⟨_, rfl⟩
  have HT := hide hT
  rw [hT]
  clear hT
  go_enter Tryd.func26, Tryd.ntmps26
  go_upto_region 1 with (fail)
  rw [← HW.out]
  go_wp2_with fail
  go_loopw [5, 6] (fun i _ wr => ∃ k : Nat, k ≤ a.vs.length ∧ k ≤ b.vs.length ∧ i = .int .i64 k ∧ Hid (cmpL (a.vs.drop k) (b.vs.drop k) = T) ∧ Step W wr) (fun i _ _ => a.vs.length - (intOf i).toNat)
  case atStart => exact ⟨0, Nat.zero_le _, Nat.zero_le _, rfl, HT.out, Step.of⟩
  case round =>
    obtain ⟨k, hk, hk2, rfl, HD, hst⟩ := hrel
    obtain ⟨wo, rfl⟩ : ∃ x : World, x = wr := ⟨_, rfl⟩
    have hzo := hst.size
    have a_ := HAB.out.fut (w' := wo); have a0 := At.z1 a_.at0; have la := a_.lt
    have b_ := HBB.out.fut (w' := wo); have b0 := At.z1 b_.at0; have lb := b_.lt
    clear a_ b_
    have hk0 : (0 : Int) ≤ (k : Int) := by omega
    by_cases hlt : k < a.vs.length ∧ k < b.vs.length
    · obtain ⟨g1, o1, hA1, hg1, hc1⟩ := ha.at_.elem (w' := wo) inferInstance (k := k) (by rw [List.length_map]; omega)
      obtain ⟨g2, o2, hA2, hg2, hc2⟩ := hb.at_.elem (w' := wo) inferInstance (k := k) (by rw [List.length_map]; omega)
      obtain ⟨x, hx⟩ : ∃ x, a.vs[k]? = some x := ⟨_, List.getElem?_eq_getElem (by omega)⟩
      obtain ⟨y, hy⟩ : ∃ y, b.vs[k]? = some y := ⟨_, List.getElem?_eq_getElem (by omega)⟩
      obtain ⟨p0, p1, p2, p3⟩ := At.l4 (hc1 k x.cells (by simp [hx]))
      obtain ⟨q0, q1, q2, q3⟩ := At.l4 (hc2 k y.cells (by simp [hy]))
      have l1 : g1 < wo.heap.size := by omega
      have l2 : g2 < wo.heap.size := by omega
      have hka : (k : Int) < (a.vs.length : Int) := by omega
      have hkb : (k : Int) < (b.vs.length : Int) := by omega
      have HD2 : Hid ((if cmpV x y = 0 then cmpL (a.vs.drop (k + 1)) (b.vs.drop (k + 1)) else cmpV x y) = T) := by
        show _ = _
        obtain ⟨h1, e1⟩ := List.getElem?_eq_some_iff.1 hx
        obtain ⟨h2, e2⟩ := List.getElem?_eq_some_iff.1 hy
        rw [← HD.out, List.drop_eq_getElem_cons h1, List.drop_eq_getElem_cons h2, e1, e2, cmpL_cons]
      have L1 := fun w' => rcmp_any x y w' (ha.strs x (List.mem_of_getElem? hx)) (hb.strs y (List.mem_of_getElem? hy))
      unfold Val.val at L1
      rw [hA1] at a0
      rw [hA2] at b0
      clear hc1 hc2 hx hy hA1 hA2 hlt
      obtain ⟨c, hc⟩ : ∃ c, cmpV x y = c := ⟨_, rfl⟩
      rw [hc] at L1
      have HD3 : Hid ((if c = 0 then cmpL (a.vs.drop (k + 1)) (b.vs.drop (k + 1)) else c) = T) := by show _ = _; rw [← HD2.out, hc]
      have L1 := hide L1
      clear hc
      by_cases hc0 : c = 0
      · subst hc0
        have HD4 : Hid (cmpL (a.vs.drop (k + 1)) (b.vs.drop (k + 1)) = T) := by show _ = _; rw [← HD3.out, if_pos rfl]
        go_upto_region 4 with (fail)
        refine wp_region_held_drew (S := (fun w' => Step wo w' ∧ (∀ b o, b < wo.heap.size → w'.cell? ⟨b, o, none⟩ = wo.cell? ⟨b, o, none⟩))) (by kernel_rfl) (by (try dsimp only); (first | exact ⟨hS1, hS2⟩ | exact ⟨Step.of, (bcell (fut _ _)).1⟩)) (fun hHeld => ?_)
        refine wpAnyH_take (i := 0) (oi := ⟨some 21, _, _, _, _, _⟩) (v := ?_) rfl (by kernel_rfl) (by kernel_rfl) (by kernel_rfl) (fun _ _ _ h => h) (Or.inl ⟨by rfl, ?_⟩) (by assumption) ?_
        rotate_left
        · ((intro w hSw); (try dsimp only at hSw); go_simp; (try with_reducible rfl))
        (try simp only [Act.put, List.setIfInBounds_toArray, List.set_cons_zero, List.set_cons_succ])
        refine wpAnyH_take (i := 2) (oi := ⟨some 23, _, _, _, _, _⟩) (v := ?_) rfl (by kernel_rfl) (by kernel_rfl) (by kernel_rfl) (fun _ _ _ h => h) (Or.inl ⟨by rfl, ?_⟩) (by assumption) ?_
        rotate_left
        · ((intro w hSw); (try dsimp only at hSw); go_simp; (try with_reducible rfl))
        (try simp only [Act.put, List.setIfInBounds_toArray, List.set_cons_zero, List.set_cons_succ])
        refine wpAnyH_take (i := 5) (oi := ⟨some 26, _, _, _, _, _⟩) (v := ?_) rfl (by kernel_rfl) (by kernel_rfl) (by kernel_rfl) (fun _ _ _ h => h) (Or.inl ⟨by rfl, ?_⟩) (by assumption) ?_
        rotate_left
        · ((intro w hSw); (try dsimp only at hSw); go_simp; (try with_reducible rfl))
        (try simp only [Act.put, List.setIfInBounds_toArray, List.set_cons_zero, List.set_cons_succ])
        refine wpAnyH_take (i := 7) (oi := ⟨some 28, _, _, _, _, _⟩) (v := ?_) rfl (by kernel_rfl) (by kernel_rfl) (by kernel_rfl) (fun _ _ _ h => h) (Or.inl ⟨by rfl, ?_⟩) (by assumption) ?_
        rotate_left
        · ((intro w hSw); (try dsimp only at hSw); go_simp; (try with_reducible rfl))
        (try simp only [Act.put, List.setIfInBounds_toArray, List.set_cons_zero, List.set_cons_succ])
        refine wpAnyH_take (i := 1) (oi := ⟨some 22, _, _, _, _, _⟩) (v := ?_) rfl (by kernel_rfl) (by kernel_rfl) (by kernel_rfl) (fun _ _ _ h => h) (Or.inl ⟨by rfl, ?_⟩) (by assumption) ?_
        rotate_left
        · ((intro w hSw); (try dsimp only at hSw); go_simp; (try with_reducible rfl))
        (try simp only [Act.put, List.setIfInBounds_toArray, List.set_cons_zero, List.set_cons_succ])
        refine wpAnyH_take (i := 6) (oi := ⟨some 27, _, _, _, _, _⟩) (v := ?_) rfl (by kernel_rfl) (by kernel_rfl) (by kernel_rfl) (fun _ _ _ h => h) (Or.inl ⟨by rfl, ?_⟩) (by assumption) ?_
        rotate_left
        · ((intro w hSw); (try dsimp only at hSw); go_simp; (try with_reducible rfl))
        (try simp only [Act.put, List.setIfInBounds_toArray, List.set_cons_zero, List.set_cons_succ])
        refine wpAnyH_take (i := 3) (oi := ⟨some 24, _, _, _, _, _⟩) (v := ?_) rfl (by kernel_rfl) (by kernel_rfl) (by kernel_rfl) (fun _ _ _ h => h) (Or.inl ⟨by rfl, ?_⟩) (by assumption) ?_
        rotate_left
        · ((intro w hSw); (try dsimp only at hSw); go_simp; (try with_reducible rfl))
        (try simp only [Act.put, List.setIfInBounds_toArray, List.set_cons_zero, List.set_cons_succ])
        refine wpAnyH_take (i := 8) (oi := ⟨some 29, _, _, _, _, _⟩) (v := ?_) rfl (by kernel_rfl) (by kernel_rfl) (by kernel_rfl) (fun _ _ _ h => h) (Or.inl ⟨by rfl, ?_⟩) (by assumption) ?_
        rotate_left
        · ((intro w hSw); (try dsimp only at hSw); go_simp; (try with_reducible rfl))
        (try simp only [Act.put, List.setIfInBounds_toArray, List.set_cons_zero, List.set_cons_succ])
        refine wpAnyH_take (i := 4) (oi := ⟨some 25, _, _, _, _, _⟩) (v := ?_) rfl (by kernel_rfl) (by kernel_rfl) (by kernel_rfl) (fun _ _ _ h => h) (Or.inl ⟨by rfl, ?_⟩) (by assumption) ?_
        rotate_left
        · ((intro w hSw); (try dsimp only at hSw); go_simp; (try with_reducible rfl))
        (try simp only [Act.put, List.setIfInBounds_toArray, List.set_cons_zero, List.set_cons_succ])
        refine wpAnyH_take (i := 9) (oi := ⟨some 30, _, _, _, _, _⟩) (v := ?_) rfl (by kernel_rfl) (by kernel_rfl) (by kernel_rfl) (fun _ _ _ h => h) (Or.inl ⟨by rfl, ?_⟩) (by assumption) ?_
        rotate_left
        · ((intro w hSw); (try dsimp only at hSw); go_simp; (try with_reducible rfl))
        (try simp only [Act.put, List.setIfInBounds_toArray, List.set_cons_zero, List.set_cons_succ])
        refine wpAnyH_ready (rs := [10]) (by kernel_rfl) (by simp) ?_
        refine AllReadyH.cons (o := ⟨some 31, _, _, _, _, _⟩) rfl (fun K hK => ?_) AllReadyH.nil
        obtain ⟨hS1, hS2⟩ := hHeld
        go_simp
        (go_at_call 47; (with_reducible refine (L1.out _).mono ?_); rintro e w5 ⟨rfl, hs5⟩)
        refine hK.out _ _ (by (try dsimp only); (first | exact ⟨hS1, hS2⟩ | exact ⟨Step.of, (bcell (fut _ _)).1⟩)) (fun hHeld => ?_)
        clear hK K
        (try simp only [Act.put, List.setIfInBounds_toArray, List.set_cons_zero, List.set_cons_succ])
        refine wpAnyH_take (i := 11) (oi := ⟨some 6, _, _, _, _, _⟩) (v := ?_) rfl (by kernel_rfl) (by kernel_rfl) (by kernel_rfl) (fun _ _ _ h => h) (Or.inl ⟨by rfl, ?_⟩) (by assumption) ?_
        rotate_left
        · ((intro w hSw); (try dsimp only at hSw); go_simp; (try with_reducible rfl))
        (try simp only [Act.put, List.setIfInBounds_toArray, List.set_cons_zero, List.set_cons_succ])
        refine wpAnyH_done (by kernel_rfl) ?_ _
        go_wp2_with fail
        go_roundw
        case rel => exact ⟨k + 1, by omega, by omega, by go_num, HD4.out, Step.of⟩
        case measure => simp [intOf]; omega
      · have hE : Hid (T = c) := by show _ = _; rw [← HD3.out, if_neg hc0]
        have hcf : (c = 0) = False := eq_false hc0
        go_upto_region 4 with (fail)
        refine wp_region_held_drew (S := (fun w' => Step wo w' ∧ (∀ b o, b < wo.heap.size → w'.cell? ⟨b, o, none⟩ = wo.cell? ⟨b, o, none⟩))) (by kernel_rfl) (by (try dsimp only); (first | exact ⟨hS1, hS2⟩ | exact ⟨Step.of, (bcell (fut _ _)).1⟩)) (fun hHeld => ?_)
        refine wpAnyH_take (i := 0) (oi := ⟨some 21, _, _, _, _, _⟩) (v := ?_) rfl (by kernel_rfl) (by kernel_rfl) (by kernel_rfl) (fun _ _ _ h => h) (Or.inl ⟨by rfl, ?_⟩) (by assumption) ?_
        rotate_left
        · ((intro w hSw); (try dsimp only at hSw); go_simp; (try with_reducible rfl))
        (try simp only [Act.put, List.setIfInBounds_toArray, List.set_cons_zero, List.set_cons_succ])
        refine wpAnyH_take (i := 2) (oi := ⟨some 23, _, _, _, _, _⟩) (v := ?_) rfl (by kernel_rfl) (by kernel_rfl) (by kernel_rfl) (fun _ _ _ h => h) (Or.inl ⟨by rfl, ?_⟩) (by assumption) ?_
        rotate_left
        · ((intro w hSw); (try dsimp only at hSw); go_simp; (try with_reducible rfl))
        (try simp only [Act.put, List.setIfInBounds_toArray, List.set_cons_zero, List.set_cons_succ])
        refine wpAnyH_take (i := 5) (oi := ⟨some 26, _, _, _, _, _⟩) (v := ?_) rfl (by kernel_rfl) (by kernel_rfl) (by kernel_rfl) (fun _ _ _ h => h) (Or.inl ⟨by rfl, ?_⟩) (by assumption) ?_
        rotate_left
        · ((intro w hSw); (try dsimp only at hSw); go_simp; (try with_reducible rfl))
        (try simp only [Act.put, List.setIfInBounds_toArray, List.set_cons_zero, List.set_cons_succ])
        refine wpAnyH_take (i := 7) (oi := ⟨some 28, _, _, _, _, _⟩) (v := ?_) rfl (by kernel_rfl) (by kernel_rfl) (by kernel_rfl) (fun _ _ _ h => h) (Or.inl ⟨by rfl, ?_⟩) (by assumption) ?_
        rotate_left
        · ((intro w hSw); (try dsimp only at hSw); go_simp; (try with_reducible rfl))
        (try simp only [Act.put, List.setIfInBounds_toArray, List.set_cons_zero, List.set_cons_succ])
        refine wpAnyH_take (i := 1) (oi := ⟨some 22, _, _, _, _, _⟩) (v := ?_) rfl (by kernel_rfl) (by kernel_rfl) (by kernel_rfl) (fun _ _ _ h => h) (Or.inl ⟨by rfl, ?_⟩) (by assumption) ?_
        rotate_left
        · ((intro w hSw); (try dsimp only at hSw); go_simp; (try with_reducible rfl))
        (try simp only [Act.put, List.setIfInBounds_toArray, List.set_cons_zero, List.set_cons_succ])
        refine wpAnyH_take (i := 6) (oi := ⟨some 27, _, _, _, _, _⟩) (v := ?_) rfl (by kernel_rfl) (by kernel_rfl) (by kernel_rfl) (fun _ _ _ h => h) (Or.inl ⟨by rfl, ?_⟩) (by assumption) ?_
        rotate_left
        · ((intro w hSw); (try dsimp only at hSw); go_simp; (try with_reducible rfl))
        (try simp only [Act.put, List.setIfInBounds_toArray, List.set_cons_zero, List.set_cons_succ])
        refine wpAnyH_take (i := 3) (oi := ⟨some 24, _, _, _, _, _⟩) (v := ?_) rfl (by kernel_rfl) (by kernel_rfl) (by kernel_rfl) (fun _ _ _ h => h) (Or.inl ⟨by rfl, ?_⟩) (by assumption) ?_
        rotate_left
        · ((intro w hSw); (try dsimp only at hSw); go_simp; (try with_reducible rfl))
        (try simp only [Act.put, List.setIfInBounds_toArray, List.set_cons_zero, List.set_cons_succ])
        refine wpAnyH_take (i := 8) (oi := ⟨some 29, _, _, _, _, _⟩) (v := ?_) rfl (by kernel_rfl) (by kernel_rfl) (by kernel_rfl) (fun _ _ _ h => h) (Or.inl ⟨by rfl, ?_⟩) (by assumption) ?_
        rotate_left
        · ((intro w hSw); (try dsimp only at hSw); go_simp; (try with_reducible rfl))
        (try simp only [Act.put, List.setIfInBounds_toArray, List.set_cons_zero, List.set_cons_succ])
        refine wpAnyH_take (i := 4) (oi := ⟨some 25, _, _, _, _, _⟩) (v := ?_) rfl (by kernel_rfl) (by kernel_rfl) (by kernel_rfl) (fun _ _ _ h => h) (Or.inl ⟨by rfl, ?_⟩) (by assumption) ?_
        rotate_left
        · ((intro w hSw); (try dsimp only at hSw); go_simp; (try with_reducible rfl))
        (try simp only [Act.put, List.setIfInBounds_toArray, List.set_cons_zero, List.set_cons_succ])
        refine wpAnyH_take (i := 9) (oi := ⟨some 30, _, _, _, _, _⟩) (v := ?_) rfl (by kernel_rfl) (by kernel_rfl) (by kernel_rfl) (fun _ _ _ h => h) (Or.inl ⟨by rfl, ?_⟩) (by assumption) ?_
        rotate_left
        · ((intro w hSw); (try dsimp only at hSw); go_simp; (try with_reducible rfl))
        (try simp only [Act.put, List.setIfInBounds_toArray, List.set_cons_zero, List.set_cons_succ])
        refine wpAnyH_ready (rs := [10]) (by kernel_rfl) (by simp) ?_
        refine AllReadyH.cons (o := ⟨some 31, _, _, _, _, _⟩) rfl (fun K hK => ?_) AllReadyH.nil
        obtain ⟨hS1, hS2⟩ := hHeld
        go_simp
        (go_at_call 47; (with_reducible refine (L1.out _).mono ?_); rintro e w5 ⟨rfl, hs5⟩)
        refine hK.out _ _ (by (try dsimp only); (first | exact ⟨hS1, hS2⟩ | exact ⟨Step.of, (bcell (fut _ _)).1⟩)) (fun hHeld => ?_)
        clear hK K
        (try simp only [Act.put, List.setIfInBounds_toArray, List.set_cons_zero, List.set_cons_succ])
        refine wpAnyH_take (i := 11) (oi := ⟨some 6, _, _, _, _, _⟩) (v := ?_) rfl (by kernel_rfl) (by kernel_rfl) (by kernel_rfl) (fun _ _ _ h => h) (Or.inl ⟨by rfl, ?_⟩) (by assumption) ?_
        rotate_left
        · ((intro w hSw); (try dsimp only at hSw); go_simp; (try with_reducible rfl))
        (try simp only [Act.put, List.setIfInBounds_toArray, List.set_cons_zero, List.set_cons_succ])
        refine wpAnyH_done (by kernel_rfl) ?_ _
        go_wp2_with fail
        go_ret
        exact ⟨by rw [hE.out]; rfl, Step.of⟩
    · have hE := hide (cmpL_end (a := a.vs) (b := b.vs) (k := k) (by omega) hk hk2)
      rcases (show ((k : Int) < (a.vs.length : Int) ∧ ¬ (k : Int) < (b.vs.length : Int) ∧ (b.vs.length : Int) < (a.vs.length : Int)) ∨ (¬ (k : Int) < (a.vs.length : Int) ∧ (a.vs.length : Int) < (b.vs.length : Int)) ∨ (¬ (k : Int) < (a.vs.length : Int) ∧ (a.vs.length : Int) = (b.vs.length : Int)) by omega) with ⟨ha1, hb1, hc1⟩ | ⟨ha1, hc1⟩ | ⟨ha1, hc1⟩
      · have HV : Hid (T = 1) := by show _ = _; rw [← HD.out, hE.out, if_neg (by omega), if_pos (by omega)]
        have hn : ¬ (a.vs.length : Int) < (b.vs.length : Int) := by omega
        go_wp2_with fail
        go_ret
        exact ⟨by rw [HV.out]; rfl, Step.of⟩
      · have HV : Hid (T = -1) := by show _ = _; rw [← HD.out, hE.out, if_pos (by omega)]
        go_wp2_with fail
        go_ret
        exact ⟨by rw [HV.out]; rfl, Step.of⟩
      · have HV : Hid (T = 0) := by show _ = _; rw [← HD.out, hE.out, if_neg (by omega), if_neg (by omega)]
        have hn : ¬ (a.vs.length : Int) < (b.vs.length : Int) := by omega
        have hn2 : ¬ (b.vs.length : Int) < (a.vs.length : Int) := by omega
        clear hc1
        go_wp2_with fail
        go_ret
        exact ⟨by rw [HV.out]; rfl, Step.of⟩
end Go.Proofs.YtafgfehjdbomfaaDoor
