/-
  Texts put together: Hs.
-/
import Derived.WalkSmall
import Derived.Test.YtnphokhehacfnaaGreatDoorCz01
import Derived.Test.YtnphokhehacfnaaGreatDoorCz02
import Derived.Test.YtnphokhehacfnaaGreatDoorCz03
import Derived.Test.YtnphokhehacfnaaGreatDoorCz05
import Derived.Test.YtnphokhehacfnaaGreatDoorCz16
namespace Go.Proofs.YtnphokhehacfnaaGreatDoor
open Go.RowKit

theorem lessL_cons {x y : Val} {a b : List Val} : lessL (x :: a) (y :: b) = if lessV x y then true else if lessV y x then false else lessL a b := rfl
theorem lessL_end {a b : List Val} {k : Nat} (h : a.length ≤ k ∨ b.length ≤ k) (ha : k ≤ a.length) (hb : k ≤ b.length) : lessL (a.drop k) (b.drop k) = decide ((a.length : Int) < (b.length : Int)) := by
  have e0 : ∀ b : List Val, lessL [] b = !b.isEmpty := fun b => by cases b <;> rfl
  by_cases h1 : a.length ≤ k
  · rw [List.drop_eq_nil_of_le h1, e0]
    by_cases h2 : b.length ≤ k
    · rw [List.drop_eq_nil_of_le h2]
      exact (decide_eq_false (by omega)).symm
    · rw [List.drop_eq_getElem_cons (by omega : k < b.length)]
      exact (decide_eq_true (by omega)).symm
  · rw [List.drop_eq_nil_of_le (show b.length ≤ k by omega), List.drop_eq_getElem_cons (by omega : k < a.length)]
    exact (decide_eq_false (by omega)).symm
set_option maxRecDepth 100000 in
set_option maxHeartbeats 8000000 in
theorem pl_any {w1 w2 : World} (a b : RowA) (w : World) (ha : RowIn w1 a) (hb : RowIn w2 b) [f1 : Fut w1 w] [f2 : Fut w2 w] :
    Calls Tryz.prog 232 #[.agg #[.slice a.A a.vs.length a.cap], .agg #[.slice b.A b.vs.length b.cap]] w fun e w' => e = .returned (.bool (lessL a.vs b.vs)) ∧ Step w w' := by
  have z1 := f1.below.size; have z2 := f2.below.size
  have ham := ha.hcapm; have hbm := hb.hcapm
  obtain ⟨W, hW⟩ : ∃ W, W = (w.alloc (.cells #[.slice a.A a.vs.length a.cap] 67)).alloc (.cells #[.slice b.A b.vs.length b.cap] 67) := ⟨_, rfl⟩
  have SW : Step w W := by rw [hW]; exact Step.of
  have HAB : Hid (Blk W w.heap.size 67 [.slice a.A a.vs.length a.cap]) := by rw [hW]; exact (Blk.new w [.slice a.A a.vs.length a.cap] 67).alloc _
  have HBB : Hid (Blk W (w.heap.size + 1) 67 [.slice b.A b.vs.length b.cap]) := by rw [hW]; exact Blk.new_at (by simp) [.slice b.A b.vs.length b.cap] 67
  have HW := hide hW
  have hzW := SW.size
  have hlW := HBB.out.lt
  clear hW
  obtain ⟨T, hT⟩ : ∃ T, lessL a.vs b.vs = T := ⟨_, rfl⟩
  have HT := hide hT
  rw [hT]
  clear hT
  rcases (show (a.vs.length : Int) ≤ (b.vs.length : Int) ∨ (b.vs.length : Int) < (a.vs.length : Int) by omega) with hab | hab
  · skip
    have hma : a.vs.length ≤ a.vs.length := by omega
    have hmb : a.vs.length ≤ b.vs.length := by omega
    have hme : a.vs.length ≤ a.vs.length ∨ b.vs.length ≤ a.vs.length := by omega
    have a0 := At.z1 HAB.out.at0; have la := HAB.out.lt; have b0 := At.z1 HBB.out.at0; have lb := HBB.out.lt
    go_enter Tryz.func232, Tryz.ntmps232
    go_upto_region 1 with (fail)
    rw [← HW.out]
    go_wp2_with fail
    clear a0 la b0 lb
    go_loopw [5, 13, 16, 28] (fun _ i _ _ wr => ∃ k : Nat, k ≤ a.vs.length ∧ i = .int .i64 k ∧ Hid (lessL (a.vs.drop k) (b.vs.drop k) = T) ∧ Step W wr) (fun _ i _ _ _ => a.vs.length - (intOf i).toNat)
    case atStart => exact ⟨0, Nat.zero_le _, rfl, HT.out, Step.of⟩
    case round =>
      obtain ⟨k, hk, rfl, HD, hst⟩ := hrel
      obtain ⟨wo, rfl⟩ : ∃ x : World, x = wr := ⟨_, rfl⟩
      have hzo := hst.size
      have a_ := HAB.out.fut (w' := wo); have a0 := At.z1 a_.at0; have la := a_.lt
      have b_ := HBB.out.fut (w' := wo); have b0 := At.z1 b_.at0; have lb := b_.lt
      clear a_ b_
      by_cases hlt : k < a.vs.length
      · obtain ⟨g1, o1, hA1, hg1, hc1⟩ := ha.at_.elem (w' := wo) inferInstance (k := k) (by rw [List.length_map]; omega)
        obtain ⟨g2, o2, hA2, hg2, hc2⟩ := hb.at_.elem (w' := wo) inferInstance (k := k) (by rw [List.length_map]; omega)
        obtain ⟨x, hx⟩ : ∃ x, a.vs[k]? = some x := ⟨_, List.getElem?_eq_getElem (by omega)⟩
        obtain ⟨y, hy⟩ : ∃ y, b.vs[k]? = some y := ⟨_, List.getElem?_eq_getElem (by omega)⟩
        obtain ⟨p0, p1, p2, p3⟩ := At.l4 (hc1 k x.cells (by simp [hx]))
        obtain ⟨q0, q1, q2, q3⟩ := At.l4 (hc2 k y.cells (by simp [hy]))
        have l1 : g1 < wo.heap.size := by omega
        have l2 : g2 < wo.heap.size := by omega
        have hkm : (k : Int) < (a.vs.length : Int) := by omega
        have hka : (k : Int) < (a.vs.length : Int) := by omega
        have hkb : (k : Int) < (b.vs.length : Int) := by omega
        have hk0 : (0 : Int) ≤ (k : Int) := by omega
        have HD2 : Hid ((if lessV x y then true else if lessV y x then false else lessL (a.vs.drop (k + 1)) (b.vs.drop (k + 1))) = T) := by
          show _ = _
          obtain ⟨h1, e1⟩ := List.getElem?_eq_some_iff.1 hx
          obtain ⟨h2, e2⟩ := List.getElem?_eq_some_iff.1 hy
          rw [← HD.out, List.drop_eq_getElem_cons h1, List.drop_eq_getElem_cons h2, e1, e2, lessL_cons]
        have L1 := fun w' => pless_any x y w'
        have L2 := fun w' => pless_any y x w'
        unfold Val.val at L1 L2
        rw [hA1] at a0
        rw [hA2] at b0
        clear hc1 hc2 hx hy hA1 hA2
        cases h1 : lessV x y with
        | true =>
          have hE : Hid (T = true) := by show _ = _; rw [← HD2.out, h1]; rfl
          rw [h1] at L1
          have L1 := hide L1
          clear h1 L2
          go_upto_region 4 with (fail)
          refine wp_region_held_drew (S := (fun w' => Step wo w' ∧ (∀ b o, b < wo.heap.size → w'.cell? ⟨b, o, none⟩ = wo.cell? ⟨b, o, none⟩))) (by kernel_rfl) (by (try dsimp only); (first | exact ⟨hS1, hS2⟩ | exact ⟨Step.of, (bcell (fut _ _)).1⟩)) (fun hHeld => ?_)
          refine wT 0 17 (by assumption) ?_
          refine wT 2 19 (by assumption) ?_
          refine wT 5 22 (by assumption) ?_
          refine wT 7 24 (by assumption) ?_
          refine wT 1 18 (by assumption) ?_
          refine wT 6 23 (by assumption) ?_
          refine wT 3 20 (by assumption) ?_
          refine wT 8 25 (by assumption) ?_
          refine wT 4 21 (by assumption) ?_
          refine wT 9 26 (by assumption) ?_
          refine wpAnyH_ready (rs := [10]) (by kernel_rfl) (by simp) ?_
          refine AllReadyH.cons (o := ⟨some 27, _, _, _, _, _⟩) rfl (fun K hK => ?_) AllReadyH.nil
          obtain ⟨hS1, hS2⟩ := hHeld
          go_simp
          (go_at_call 183; (with_reducible refine (L1.out _).mono ?_); rintro e w5 ⟨rfl, hs5⟩)
          refine hK.out _ _ (by (try dsimp only); (first | exact ⟨hS1, hS2⟩ | exact ⟨Step.of, (bcell (fut _ _)).1⟩)) (fun hHeld => ?_)
          clear hK K
          (try simp only [Act.put, List.setIfInBounds_toArray, List.set_cons_zero, List.set_cons_succ])
          refine wT 11 16 (by assumption) ?_
          refine wpAnyH_done (by kernel_rfl) ?_ _
          go_wp2_with fail
          go_ret
          exact ⟨by rw [hE.out]; rfl, Step.of⟩
        | false =>
          have HD3 : Hid ((if lessV y x then false else lessL (a.vs.drop (k + 1)) (b.vs.drop (k + 1))) = T) := by show _ = _; rw [← HD2.out, h1]; rfl
          rw [h1] at L1
          have L1 := hide L1
          clear h1
          cases h2 : lessV y x with
          | true =>
            have hE : Hid (T = false) := by show _ = _; rw [← HD3.out, h2]; rfl
            rw [h2] at L2
            have L2 := hide L2
            clear h2
            go_upto_region 4 with (fail)
            refine wp_region_held_drew (S := (fun w' => Step wo w' ∧ (∀ b o, b < wo.heap.size → w'.cell? ⟨b, o, none⟩ = wo.cell? ⟨b, o, none⟩))) (by kernel_rfl) (by (try dsimp only); (first | exact ⟨hS1, hS2⟩ | exact ⟨Step.of, (bcell (fut _ _)).1⟩)) (fun hHeld => ?_)
            refine wT 0 17 (by assumption) ?_
            refine wT 2 19 (by assumption) ?_
            refine wT 5 22 (by assumption) ?_
            refine wT 7 24 (by assumption) ?_
            refine wT 1 18 (by assumption) ?_
            refine wT 6 23 (by assumption) ?_
            refine wT 3 20 (by assumption) ?_
            refine wT 8 25 (by assumption) ?_
            refine wT 4 21 (by assumption) ?_
            refine wT 9 26 (by assumption) ?_
            refine wpAnyH_ready (rs := [10]) (by kernel_rfl) (by simp) ?_
            refine AllReadyH.cons (o := ⟨some 27, _, _, _, _, _⟩) rfl (fun K hK => ?_) AllReadyH.nil
            obtain ⟨hS1, hS2⟩ := hHeld
            go_simp
            (go_at_call 183; (with_reducible refine (L1.out _).mono ?_); rintro e w5 ⟨rfl, hs5⟩)
            refine hK.out _ _ (by (try dsimp only); (first | exact ⟨hS1, hS2⟩ | exact ⟨Step.of, (bcell (fut _ _)).1⟩)) (fun hHeld => ?_)
            clear hK K
            (try simp only [Act.put, List.setIfInBounds_toArray, List.set_cons_zero, List.set_cons_succ])
            refine wT 11 16 (by assumption) ?_
            refine wpAnyH_done (by kernel_rfl) ?_ _
            clear hHeld
            have hc5 := (bcell (fut wo w5)).1
            have l5 := (fut wo w5).size
            rw [← hc5 _ _ la] at a0
            rw [← hc5 _ _ lb] at b0
            rw [← hc5 _ _ l1] at p0 p1 p2 p3
            rw [← hc5 _ _ l2] at q0 q1 q2 q3
            have la : w.heap.size < w5.heap.size := by omega
            have lb : w.heap.size + 1 < w5.heap.size := by omega
            have l1 : g1 < w5.heap.size := by omega
            have l2 : g2 < w5.heap.size := by omega
            clear hc5
            go_upto_region 6 with (fail)
            refine wp_region_held_drew (S := (fun w' => Step w5 w' ∧ (∀ b o, b < w5.heap.size → w'.cell? ⟨b, o, none⟩ = w5.cell? ⟨b, o, none⟩))) (by kernel_rfl) (by (try dsimp only); (first | exact ⟨hS1, hS2⟩ | exact ⟨Step.of, (bcell (fut _ _)).1⟩)) (fun hHeld => ?_)
            refine wT 0 29 (by assumption) ?_
            refine wT 2 31 (by assumption) ?_
            refine wT 5 34 (by assumption) ?_
            refine wT 7 36 (by assumption) ?_
            refine wT 1 30 (by assumption) ?_
            refine wT 6 35 (by assumption) ?_
            refine wT 3 32 (by assumption) ?_
            refine wT 8 37 (by assumption) ?_
            refine wT 4 33 (by assumption) ?_
            refine wT 9 38 (by assumption) ?_
            refine wpAnyH_ready (rs := [10]) (by kernel_rfl) (by simp) ?_
            refine AllReadyH.cons (o := ⟨some 39, _, _, _, _, _⟩) rfl (fun K hK => ?_) AllReadyH.nil
            obtain ⟨hS1, hS2⟩ := hHeld
            go_simp
            (go_at_call 183; (with_reducible refine (L2.out _).mono ?_); rintro e w6 ⟨rfl, hs6⟩)
            refine hK.out _ _ (by (try dsimp only); (first | exact ⟨hS1, hS2⟩ | exact ⟨Step.of, (bcell (fut _ _)).1⟩)) (fun hHeld => ?_)
            clear hK K
            (try simp only [Act.put, List.setIfInBounds_toArray, List.set_cons_zero, List.set_cons_succ])
            refine wT 11 28 (by assumption) ?_
            refine wpAnyH_done (by kernel_rfl) ?_ _
            go_wp2_with fail
            go_ret
            exact ⟨by rw [hE.out]; rfl, Step.of⟩
          | false =>
            have HD4 : Hid (lessL (a.vs.drop (k + 1)) (b.vs.drop (k + 1)) = T) := by show _ = _; rw [← HD3.out, h2]; rfl
            rw [h2] at L2
            have L2 := hide L2
            clear h2
            go_upto_region 4 with (fail)
            refine wp_region_held_drew (S := (fun w' => Step wo w' ∧ (∀ b o, b < wo.heap.size → w'.cell? ⟨b, o, none⟩ = wo.cell? ⟨b, o, none⟩))) (by kernel_rfl) (by (try dsimp only); (first | exact ⟨hS1, hS2⟩ | exact ⟨Step.of, (bcell (fut _ _)).1⟩)) (fun hHeld => ?_)
            refine wT 0 17 (by assumption) ?_
            refine wT 2 19 (by assumption) ?_
            refine wT 5 22 (by assumption) ?_
            refine wT 7 24 (by assumption) ?_
            refine wT 1 18 (by assumption) ?_
            refine wT 6 23 (by assumption) ?_
            refine wT 3 20 (by assumption) ?_
            refine wT 8 25 (by assumption) ?_
            refine wT 4 21 (by assumption) ?_
            refine wT 9 26 (by assumption) ?_
            refine wpAnyH_ready (rs := [10]) (by kernel_rfl) (by simp) ?_
            refine AllReadyH.cons (o := ⟨some 27, _, _, _, _, _⟩) rfl (fun K hK => ?_) AllReadyH.nil
            obtain ⟨hS1, hS2⟩ := hHeld
            go_simp
            (go_at_call 183; (with_reducible refine (L1.out _).mono ?_); rintro e w5 ⟨rfl, hs5⟩)
            refine hK.out _ _ (by (try dsimp only); (first | exact ⟨hS1, hS2⟩ | exact ⟨Step.of, (bcell (fut _ _)).1⟩)) (fun hHeld => ?_)
            clear hK K
            (try simp only [Act.put, List.setIfInBounds_toArray, List.set_cons_zero, List.set_cons_succ])
            refine wT 11 16 (by assumption) ?_
            refine wpAnyH_done (by kernel_rfl) ?_ _
            clear hHeld
            have hc5 := (bcell (fut wo w5)).1
            have l5 := (fut wo w5).size
            rw [← hc5 _ _ la] at a0
            rw [← hc5 _ _ lb] at b0
            rw [← hc5 _ _ l1] at p0 p1 p2 p3
            rw [← hc5 _ _ l2] at q0 q1 q2 q3
            have la : w.heap.size < w5.heap.size := by omega
            have lb : w.heap.size + 1 < w5.heap.size := by omega
            have l1 : g1 < w5.heap.size := by omega
            have l2 : g2 < w5.heap.size := by omega
            clear hc5
            go_upto_region 6 with (fail)
            refine wp_region_held_drew (S := (fun w' => Step w5 w' ∧ (∀ b o, b < w5.heap.size → w'.cell? ⟨b, o, none⟩ = w5.cell? ⟨b, o, none⟩))) (by kernel_rfl) (by (try dsimp only); (first | exact ⟨hS1, hS2⟩ | exact ⟨Step.of, (bcell (fut _ _)).1⟩)) (fun hHeld => ?_)
            refine wT 0 29 (by assumption) ?_
            refine wT 2 31 (by assumption) ?_
            refine wT 5 34 (by assumption) ?_
            refine wT 7 36 (by assumption) ?_
            refine wT 1 30 (by assumption) ?_
            refine wT 6 35 (by assumption) ?_
            refine wT 3 32 (by assumption) ?_
            refine wT 8 37 (by assumption) ?_
            refine wT 4 33 (by assumption) ?_
            refine wT 9 38 (by assumption) ?_
            refine wpAnyH_ready (rs := [10]) (by kernel_rfl) (by simp) ?_
            refine AllReadyH.cons (o := ⟨some 39, _, _, _, _, _⟩) rfl (fun K hK => ?_) AllReadyH.nil
            obtain ⟨hS1, hS2⟩ := hHeld
            go_simp
            (go_at_call 183; (with_reducible refine (L2.out _).mono ?_); rintro e w6 ⟨rfl, hs6⟩)
            refine hK.out _ _ (by (try dsimp only); (first | exact ⟨hS1, hS2⟩ | exact ⟨Step.of, (bcell (fut _ _)).1⟩)) (fun hHeld => ?_)
            clear hK K
            (try simp only [Act.put, List.setIfInBounds_toArray, List.set_cons_zero, List.set_cons_succ])
            refine wT 11 28 (by assumption) ?_
            refine wpAnyH_done (by kernel_rfl) ?_ _
            go_wp2_with fail
            go_roundw
            case rel => exact ⟨k + 1, by omega, by go_num, HD4.out, Step.of⟩
            case measure => simp [intOf]; omega
      · obtain rfl : k = a.vs.length := by omega
        have hE := hide (lessL_end hme hma hmb)
        go_wp2_with fail
        go_ret
        exact ⟨ret_bool (by rw [← HD.out, hE.out]; exact decide_eq_decide.2 (by omega)), Step.of⟩
  · skip
    have hma : b.vs.length ≤ a.vs.length := by omega
    have hmb : b.vs.length ≤ b.vs.length := by omega
    have hme : a.vs.length ≤ b.vs.length ∨ b.vs.length ≤ b.vs.length := by omega
    have a0 := At.z1 HAB.out.at0; have la := HAB.out.lt; have b0 := At.z1 HBB.out.at0; have lb := HBB.out.lt
    go_enter Tryz.func232, Tryz.ntmps232
    go_upto_region 1 with (fail)
    rw [← HW.out]
    go_wp2_with fail
    clear a0 la b0 lb
    go_loopw [5, 13, 16, 28] (fun _ i _ _ wr => ∃ k : Nat, k ≤ b.vs.length ∧ i = .int .i64 k ∧ Hid (lessL (a.vs.drop k) (b.vs.drop k) = T) ∧ Step W wr) (fun _ i _ _ _ => b.vs.length - (intOf i).toNat)
    case atStart => exact ⟨0, Nat.zero_le _, rfl, HT.out, Step.of⟩
    case round =>
      obtain ⟨k, hk, rfl, HD, hst⟩ := hrel
      obtain ⟨wo, rfl⟩ : ∃ x : World, x = wr := ⟨_, rfl⟩
      have hzo := hst.size
      have a_ := HAB.out.fut (w' := wo); have a0 := At.z1 a_.at0; have la := a_.lt
      have b_ := HBB.out.fut (w' := wo); have b0 := At.z1 b_.at0; have lb := b_.lt
      clear a_ b_
      by_cases hlt : k < b.vs.length
      · obtain ⟨g1, o1, hA1, hg1, hc1⟩ := ha.at_.elem (w' := wo) inferInstance (k := k) (by rw [List.length_map]; omega)
        obtain ⟨g2, o2, hA2, hg2, hc2⟩ := hb.at_.elem (w' := wo) inferInstance (k := k) (by rw [List.length_map]; omega)
        obtain ⟨x, hx⟩ : ∃ x, a.vs[k]? = some x := ⟨_, List.getElem?_eq_getElem (by omega)⟩
        obtain ⟨y, hy⟩ : ∃ y, b.vs[k]? = some y := ⟨_, List.getElem?_eq_getElem (by omega)⟩
        obtain ⟨p0, p1, p2, p3⟩ := At.l4 (hc1 k x.cells (by simp [hx]))
        obtain ⟨q0, q1, q2, q3⟩ := At.l4 (hc2 k y.cells (by simp [hy]))
        have l1 : g1 < wo.heap.size := by omega
        have l2 : g2 < wo.heap.size := by omega
        have hkm : (k : Int) < (b.vs.length : Int) := by omega
        have hka : (k : Int) < (a.vs.length : Int) := by omega
        have hkb : (k : Int) < (b.vs.length : Int) := by omega
        have hk0 : (0 : Int) ≤ (k : Int) := by omega
        have HD2 : Hid ((if lessV x y then true else if lessV y x then false else lessL (a.vs.drop (k + 1)) (b.vs.drop (k + 1))) = T) := by
          show _ = _
          obtain ⟨h1, e1⟩ := List.getElem?_eq_some_iff.1 hx
          obtain ⟨h2, e2⟩ := List.getElem?_eq_some_iff.1 hy
          rw [← HD.out, List.drop_eq_getElem_cons h1, List.drop_eq_getElem_cons h2, e1, e2, lessL_cons]
        have L1 := fun w' => pless_any x y w'
        have L2 := fun w' => pless_any y x w'
        unfold Val.val at L1 L2
        rw [hA1] at a0
        rw [hA2] at b0
        clear hc1 hc2 hx hy hA1 hA2
        cases h1 : lessV x y with
        | true =>
          have hE : Hid (T = true) := by show _ = _; rw [← HD2.out, h1]; rfl
          rw [h1] at L1
          have L1 := hide L1
          clear h1 L2
          go_upto_region 4 with (fail)
          refine wp_region_held_drew (S := (fun w' => Step wo w' ∧ (∀ b o, b < wo.heap.size → w'.cell? ⟨b, o, none⟩ = wo.cell? ⟨b, o, none⟩))) (by kernel_rfl) (by (try dsimp only); (first | exact ⟨hS1, hS2⟩ | exact ⟨Step.of, (bcell (fut _ _)).1⟩)) (fun hHeld => ?_)
          refine wT 0 17 (by assumption) ?_
          refine wT 2 19 (by assumption) ?_
          refine wT 5 22 (by assumption) ?_
          refine wT 7 24 (by assumption) ?_
          refine wT 1 18 (by assumption) ?_
          refine wT 6 23 (by assumption) ?_
          refine wT 3 20 (by assumption) ?_
          refine wT 8 25 (by assumption) ?_
          refine wT 4 21 (by assumption) ?_
          refine wT 9 26 (by assumption) ?_
          refine wpAnyH_ready (rs := [10]) (by kernel_rfl) (by simp) ?_
          refine AllReadyH.cons (o := ⟨some 27, _, _, _, _, _⟩) rfl (fun K hK => ?_) AllReadyH.nil
          obtain ⟨hS1, hS2⟩ := hHeld
          go_simp
          (go_at_call 183; (with_reducible refine (L1.out _).mono ?_); rintro e w5 ⟨rfl, hs5⟩)
          refine hK.out _ _ (by (try dsimp only); (first | exact ⟨hS1, hS2⟩ | exact ⟨Step.of, (bcell (fut _ _)).1⟩)) (fun hHeld => ?_)
          clear hK K
          (try simp only [Act.put, List.setIfInBounds_toArray, List.set_cons_zero, List.set_cons_succ])
          refine wT 11 16 (by assumption) ?_
          refine wpAnyH_done (by kernel_rfl) ?_ _
          go_wp2_with fail
          go_ret
          exact ⟨by rw [hE.out]; rfl, Step.of⟩
        | false =>
          have HD3 : Hid ((if lessV y x then false else lessL (a.vs.drop (k + 1)) (b.vs.drop (k + 1))) = T) := by show _ = _; rw [← HD2.out, h1]; rfl
          rw [h1] at L1
          have L1 := hide L1
          clear h1
          cases h2 : lessV y x with
          | true =>
            have hE : Hid (T = false) := by show _ = _; rw [← HD3.out, h2]; rfl
            rw [h2] at L2
            have L2 := hide L2
            clear h2
            go_upto_region 4 with (fail)
            refine wp_region_held_drew (S := (fun w' => Step wo w' ∧ (∀ b o, b < wo.heap.size → w'.cell? ⟨b, o, none⟩ = wo.cell? ⟨b, o, none⟩))) (by kernel_rfl) (by (try dsimp only); (first | exact ⟨hS1, hS2⟩ | exact ⟨Step.of, (bcell (fut _ _)).1⟩)) (fun hHeld => ?_)
            refine wT 0 17 (by assumption) ?_
            refine wT 2 19 (by assumption) ?_
            refine wT 5 22 (by assumption) ?_
            refine wT 7 24 (by assumption) ?_
            refine wT 1 18 (by assumption) ?_
            refine wT 6 23 (by assumption) ?_
            refine wT 3 20 (by assumption) ?_
            refine wT 8 25 (by assumption) ?_
            refine wT 4 21 (by assumption) ?_
            refine wT 9 26 (by assumption) ?_
            refine wpAnyH_ready (rs := [10]) (by kernel_rfl) (by simp) ?_
            refine AllReadyH.cons (o := ⟨some 27, _, _, _, _, _⟩) rfl (fun K hK => ?_) AllReadyH.nil
            obtain ⟨hS1, hS2⟩ := hHeld
            go_simp
            (go_at_call 183; (with_reducible refine (L1.out _).mono ?_); rintro e w5 ⟨rfl, hs5⟩)
            refine hK.out _ _ (by (try dsimp only); (first | exact ⟨hS1, hS2⟩ | exact ⟨Step.of, (bcell (fut _ _)).1⟩)) (fun hHeld => ?_)
            clear hK K
            (try simp only [Act.put, List.setIfInBounds_toArray, List.set_cons_zero, List.set_cons_succ])
            refine wT 11 16 (by assumption) ?_
            refine wpAnyH_done (by kernel_rfl) ?_ _
            clear hHeld
            have hc5 := (bcell (fut wo w5)).1
            have l5 := (fut wo w5).size
            rw [← hc5 _ _ la] at a0
            rw [← hc5 _ _ lb] at b0
            rw [← hc5 _ _ l1] at p0 p1 p2 p3
            rw [← hc5 _ _ l2] at q0 q1 q2 q3
            have la : w.heap.size < w5.heap.size := by omega
            have lb : w.heap.size + 1 < w5.heap.size := by omega
            have l1 : g1 < w5.heap.size := by omega
            have l2 : g2 < w5.heap.size := by omega
            clear hc5
            go_upto_region 6 with (fail)
            refine wp_region_held_drew (S := (fun w' => Step w5 w' ∧ (∀ b o, b < w5.heap.size → w'.cell? ⟨b, o, none⟩ = w5.cell? ⟨b, o, none⟩))) (by kernel_rfl) (by (try dsimp only); (first | exact ⟨hS1, hS2⟩ | exact ⟨Step.of, (bcell (fut _ _)).1⟩)) (fun hHeld => ?_)
            refine wT 0 29 (by assumption) ?_
            refine wT 2 31 (by assumption) ?_
            refine wT 5 34 (by assumption) ?_
            refine wT 7 36 (by assumption) ?_
            refine wT 1 30 (by assumption) ?_
            refine wT 6 35 (by assumption) ?_
            refine wT 3 32 (by assumption) ?_
            refine wT 8 37 (by assumption) ?_
            refine wT 4 33 (by assumption) ?_
            refine wT 9 38 (by assumption) ?_
            refine wpAnyH_ready (rs := [10]) (by kernel_rfl) (by simp) ?_
            refine AllReadyH.cons (o := ⟨some 39, _, _, _, _, _⟩) rfl (fun K hK => ?_) AllReadyH.nil
            obtain ⟨hS1, hS2⟩ := hHeld
            go_simp
            (go_at_call 183; (with_reducible refine (L2.out _).mono ?_); rintro e w6 ⟨rfl, hs6⟩)
            refine hK.out _ _ (by (try dsimp only); (first | exact ⟨hS1, hS2⟩ | exact ⟨Step.of, (bcell (fut _ _)).1⟩)) (fun hHeld => ?_)
            clear hK K
            (try simp only [Act.put, List.setIfInBounds_toArray, List.set_cons_zero, List.set_cons_succ])
            refine wT 11 28 (by assumption) ?_
            refine wpAnyH_done (by kernel_rfl) ?_ _
            go_wp2_with fail
            go_ret
            exact ⟨by rw [hE.out]; rfl, Step.of⟩
          | false =>
            have HD4 : Hid (lessL (a.vs.drop (k + 1)) (b.vs.drop (k + 1)) = T) := by show _ = _; rw [← HD3.out, h2]; rfl
            rw [h2] at L2
            have L2 := hide L2
            clear h2
            go_upto_region 4 with (fail)
            refine wp_region_held_drew (S := (fun w' => Step wo w' ∧ (∀ b o, b < wo.heap.size → w'.cell? ⟨b, o, none⟩ = wo.cell? ⟨b, o, none⟩))) (by kernel_rfl) (by (try dsimp only); (first | exact ⟨hS1, hS2⟩ | exact ⟨Step.of, (bcell (fut _ _)).1⟩)) (fun hHeld => ?_)
            refine wT 0 17 (by assumption) ?_
            refine wT 2 19 (by assumption) ?_
            refine wT 5 22 (by assumption) ?_
            refine wT 7 24 (by assumption) ?_
            refine wT 1 18 (by assumption) ?_
            refine wT 6 23 (by assumption) ?_
            refine wT 3 20 (by assumption) ?_
            refine wT 8 25 (by assumption) ?_
            refine wT 4 21 (by assumption) ?_
            refine wT 9 26 (by assumption) ?_
            refine wpAnyH_ready (rs := [10]) (by kernel_rfl) (by simp) ?_
            refine AllReadyH.cons (o := ⟨some 27, _, _, _, _, _⟩) rfl (fun K hK => ?_) AllReadyH.nil
            obtain ⟨hS1, hS2⟩ := hHeld
            go_simp
            (go_at_call 183; (with_reducible refine (L1.out _).mono ?_); rintro e w5 ⟨rfl, hs5⟩)
            refine hK.out _ _ (by (try dsimp only); (first | exact ⟨hS1, hS2⟩ | exact ⟨Step.of, (bcell (fut _ _)).1⟩)) (fun hHeld => ?_)
            clear hK K
            (try simp only [Act.put, List.setIfInBounds_toArray, List.set_cons_zero, List.set_cons_succ])
            refine wT 11 16 (by assumption) ?_
            refine wpAnyH_done (by kernel_rfl) ?_ _
            clear hHeld
            have hc5 := (bcell (fut wo w5)).1
            have l5 := (fut wo w5).size
            rw [← hc5 _ _ la] at a0
            rw [← hc5 _ _ lb] at b0
            rw [← hc5 _ _ l1] at p0 p1 p2 p3
            rw [← hc5 _ _ l2] at q0 q1 q2 q3
            have la : w.heap.size < w5.heap.size := by omega
            have lb : w.heap.size + 1 < w5.heap.size := by omega
            have l1 : g1 < w5.heap.size := by omega
            have l2 : g2 < w5.heap.size := by omega
            clear hc5
            go_upto_region 6 with (fail)
            refine wp_region_held_drew (S := (fun w' => Step w5 w' ∧ (∀ b o, b < w5.heap.size → w'.cell? ⟨b, o, none⟩ = w5.cell? ⟨b, o, none⟩))) (by kernel_rfl) (by (try dsimp only); (first | exact ⟨hS1, hS2⟩ | exact ⟨Step.of, (bcell (fut _ _)).1⟩)) (fun hHeld => ?_)
            refine wT 0 29 (by assumption) ?_
            refine wT 2 31 (by assumption) ?_
            refine wT 5 34 (by assumption) ?_
            refine wT 7 36 (by assumption) ?_
            refine wT 1 30 (by assumption) ?_
            refine wT 6 35 (by assumption) ?_
            refine wT 3 32 (by assumption) ?_
            refine wT 8 37 (by assumption) ?_
            refine wT 4 33 (by assumption) ?_
            refine wT 9 38 (by assumption) ?_
            refine wpAnyH_ready (rs := [10]) (by kernel_rfl) (by simp) ?_
            refine AllReadyH.cons (o := ⟨some 39, _, _, _, _, _⟩) rfl (fun K hK => ?_) AllReadyH.nil
            obtain ⟨hS1, hS2⟩ := hHeld
            go_simp
            (go_at_call 183; (with_reducible refine (L2.out _).mono ?_); rintro e w6 ⟨rfl, hs6⟩)
            refine hK.out _ _ (by (try dsimp only); (first | exact ⟨hS1, hS2⟩ | exact ⟨Step.of, (bcell (fut _ _)).1⟩)) (fun hHeld => ?_)
            clear hK K
            (try simp only [Act.put, List.setIfInBounds_toArray, List.set_cons_zero, List.set_cons_succ])
            refine wT 11 28 (by assumption) ?_
            refine wpAnyH_done (by kernel_rfl) ?_ _
            go_wp2_with fail
            go_roundw
            case rel => exact ⟨k + 1, by omega, by go_num, HD4.out, Step.of⟩
            case measure => simp [intOf]; omega
      · obtain rfl : k = b.vs.length := by omega
        have hE := hide (lessL_end hme hma hmb)
        go_wp2_with fail
        go_ret
        exact ⟨ret_bool (by rw [← HD.out, hE.out]; exact decide_eq_decide.2 (by omega)), Step.of⟩
end Go.Proofs.YtnphokhehacfnaaGreatDoor
namespace Go.Proofs.YtnphokhehacfnaaGreatDoor
open Go.RowKit

theorem m_len (g n c : Nat) (A : Option Addr) (w : World) (h : w.cell? ⟨g, 0, none⟩ = some (.slice A n c)) : (method 351 143 (.pointer (some ⟨g, 0, none⟩)) "Len").run Tryz.prog w = .ok (117, .slice A n c) w := by
  have e : (method 351 143 (.pointer (some ⟨g, 0, none⟩)) "Len").run Tryz.prog w = (do let v ← loadVar 141 ⟨g, 0, none⟩; pure (117, v)).run Tryz.prog w := by kernel_rfl
  rw [e]
  go_simp
theorem m_less (g n c : Nat) (A : Option Addr) (w : World) (h : w.cell? ⟨g, 0, none⟩ = some (.slice A n c)) : (method 351 143 (.pointer (some ⟨g, 0, none⟩)) "Less").run Tryz.prog w = .ok (230, .slice A n c) w := by
  have e : (method 351 143 (.pointer (some ⟨g, 0, none⟩)) "Less").run Tryz.prog w = (do let v ← loadVar 141 ⟨g, 0, none⟩; pure (230, v)).run Tryz.prog w := by kernel_rfl
  rw [e]
  go_simp
theorem m_swap (g n c : Nat) (A : Option Addr) (w : World) (h : w.cell? ⟨g, 0, none⟩ = some (.slice A n c)) : (method 351 143 (.pointer (some ⟨g, 0, none⟩)) "Swap").run Tryz.prog w = .ok (231, .slice A n c) w := by
  have e : (method 351 143 (.pointer (some ⟨g, 0, none⟩)) "Swap").run Tryz.prog w = (do let v ← loadVar 141 ⟨g, 0, none⟩; pure (231, v)).run Tryz.prog w := by kernel_rfl
  rw [e]
  go_simp
theorem m_pop (g : Nat) (w : World) : (method 351 143 (.pointer (some ⟨g, 0, none⟩)) "Pop").run Tryz.prog w = .ok (233, .pointer (some ⟨g, 0, none⟩)) w := by kernel_rfl

theorem plen_any (A : Option Addr) (n c : Nat) (w : World) : Calls Tryz.prog 117 #[.slice A n c] w fun e w' => e = .returned (.int .i64 n) ∧ w = w' := by
  go_enter Tryz.func117, Tryz.ntmps117
  go_wp2
  go_ret
  exact ⟨rfl, rfl⟩

def RowA.sl (r : RowA) : Value := .slice r.A r.vs.length r.cap
theorem swap_own {base : Nat} {rs : List RowA} {c i k g : Nat} {x y : RowA} {w : World} (h : OwnR w base (some ⟨g, 0, none⟩) rs.length c rs) (hi : rs[i]? = some x) (hk : rs[k]? = some y) :
    OwnR (((w.setCell ⟨g, i, none⟩ y.sl).setCell ⟨g, k, none⟩ x.sl).drew) base (some ⟨g, 0, none⟩) rs.length c (swp rs i k x y) ∧ w.grownBy (((w.setCell ⟨g, i, none⟩ y.sl).setCell ⟨g, k, none⟩ x.sl).drew) (some g) := by
  obtain ⟨g1, e1, _, _, _, _, p1⟩ := h.out.put (rows_fit rs).len (k := i) (j := 0) (cs := x.cells) (by simp [hi]) (by decide)
  cases e1
  have o1 := p1 y.sl
  have o1 : Own (w.setCell ⟨g, i, none⟩ y.sl) base 67 1 (.slice (some ⟨g, 0, none⟩) rs.length c) ((rs.set i y).map RowA.cells) := by
    rw [List.map_set]
    simpa [RowA.cells, RowA.sl] using o1
  have hk2 : (rs.set i y)[k]? = some y := by
    rw [List.getElem?_set]
    split
    · rename_i e
      rw [if_pos (List.getElem?_eq_some_iff.1 hi).1]
    · exact hk
  obtain ⟨g2, e2, _, _, _, _, p2⟩ := o1.put (rows_fit _).len (k := k) (j := 0) (cs := y.cells) (by rw [List.getElem?_map, hk2]; rfl) (by decide)
  cases e2
  have o2 := p2 x.sl
  have o2 : Own ((w.setCell ⟨g, i, none⟩ y.sl).setCell ⟨g, k, none⟩ x.sl) base 67 1 (.slice (some ⟨g, 0, none⟩) rs.length c) ((swp rs i k x y).map RowA.cells) := by
    unfold swp
    rw [List.map_set]
    simpa [RowA.cells, RowA.sl] using o2
  have hgr : w.grownBy (((w.setCell ⟨g, i, none⟩ y.sl).setCell ⟨g, k, none⟩ x.sl).drew) (some g) := ((grown_setCell w g i y.sl).trans (grown_setCell _ g k x.sl)).trans ⟨rfl, rfl, rfl, Nat.le_refl _, fun _ _ _ => rfl⟩
  refine ⟨⟨o2.fut, fun r hr => ?_⟩, hgr⟩
  have hr2 : r ∈ rs := (swp_perm hi hk).mem_iff.1 hr
  exact (h.rows r hr2).grown_other hgr (own_ne (h.rows r hr2) h.out (by decide))
set_option maxRecDepth 100000 in
theorem pswap_any {base : Nat} (rs : List RowA) (A : Option Addr) (c i k : Nat) (x y : RowA) (w : World) (h : OwnR w base A rs.length c rs) (hi : rs[i]? = some x) (hk : rs[k]? = some y) :
    Calls Tryz.prog 231 #[.slice A rs.length c, .int .i64 i, .int .i64 k] w fun e w' => e = .returned (.tuple #[]) ∧ OwnR w' base A rs.length c (swp rs i k x y) ∧ w.grownBy w' (Value.slice A rs.length c).ownBlock := by
  have hil := (List.getElem?_eq_some_iff.1 hi).1
  have hkl := (List.getElem?_eq_some_iff.1 hk).1
  obtain ⟨g, rfl, hg, hgl, hat, hfr, _⟩ := h.out.put (rows_fit rs).len (k := i) (j := 0) (cs := x.cells) (by simp [hi]) (by decide)
  obtain ⟨g2, hg2, _, _, hat2, _, _⟩ := h.out.put (rows_fit rs).len (k := k) (j := 0) (cs := y.cells) (by simp [hk]) (by decide)
  cases hg2
  have p0 := At.l1 hat
  have q0 := At.l1 hat2
  simp only [Nat.mul_one] at p0 q0
  have f1 := hfr i
  have f2 := hfr k
  have h1 : (i : Int) < (rs.length : Int) := by omega
  have h2 : (k : Int) < (rs.length : Int) := by omega
  have h3 : (0 : Int) ≤ (i : Int) := by omega
  have h4 : (0 : Int) ≤ (k : Int) := by omega
  have SO := hide (swap_own h hi hk)
  clear hat hat2 hfr
  rcases Nat.decEq i k with hne | he
  · have hn1 : (i = k) = False := eq_false hne
    have hn2 : (k = i) = False := eq_false (fun e => hne e.symm)
    go_enter Tryz.func231, Tryz.ntmps231
    go_region
    go_end0
    exact ⟨rfl, SO.out.1, SO.out.2⟩
  · subst he
    obtain rfl : x = y := by rw [hi] at hk; exact Option.some.inj hk
    go_enter Tryz.func231, Tryz.ntmps231
    go_region
    go_end0
    exact ⟨rfl, SO.out.1, SO.out.2⟩

set_option maxRecDepth 100000 in
set_option maxHeartbeats 4000000 in
theorem pless2_any {w0 : World} (rs : List RowA) (A : Option Addr) (c i k : Nat) (x y : RowA) (w : World) (h : RowsIn w0 rs A c) [f0 : Fut w0 w] (hi : rs[i]? = some x) (hk : rs[k]? = some y) :
    Calls Tryz.prog 230 #[.slice A rs.length c, .int .i64 i, .int .i64 k] w fun e w' => e = .returned (.bool (lessL x.vs y.vs)) ∧ Step w w' := by
  have z0 := f0.below.size
  have hil := (List.getElem?_eq_some_iff.1 hi).1
  have hkl := (List.getElem?_eq_some_iff.1 hk).1
  have hrm := h.hcapm
  obtain ⟨wo, rfl⟩ : ∃ x : World, x = w := ⟨_, rfl⟩
  obtain ⟨b1, o1, hA1, hb1, x', hx', hxi, p0⟩ := h.row (w' := wo) inferInstance hil
  obtain ⟨b2, o2, hA2, hb2, y', hy', hyi, q0⟩ := h.row (w' := wo) inferInstance hkl
  rw [hi] at hx'; injection hx' with hx'; subst hx'
  rw [hk] at hy'; injection hy' with hy'; subst hy'
  cases (hA1.symm.trans hA2)
  have PL := hide (fun w' [Fut w0 w'] => pl_any x y w' hxi hyi)
  have h1 : (i : Int) < (rs.length : Int) := by omega
  have h2 : (k : Int) < (rs.length : Int) := by omega
  have h3 : (0 : Int) ≤ (i : Int) := by omega
  have h4 : (0 : Int) ≤ (k : Int) := by omega
  have l1 : b1 < wo.heap.size := by omega
  rw [hA1]
  clear hA1 hA2 hi hk
  go_enter Tryz.func230, Tryz.ntmps230
  go_upto_region 1 with (fail)
  refine wp_region_held_drew (S := (fun w' => Step wo w' ∧ (∀ b o, b < wo.heap.size → w'.cell? ⟨b, o, none⟩ = wo.cell? ⟨b, o, none⟩))) (by kernel_rfl) (by (try dsimp only); (first | exact ⟨hS1, hS2⟩ | exact ⟨Step.of, (bcell (fut _ _)).1⟩)) (fun hHeld => ?_)
  refine wT 0 7 (by assumption) ?_
  refine wT 1 8 (by assumption) ?_
  refine wT 4 11 (by assumption) ?_
  refine wT 5 12 (by assumption) ?_
  refine wT 2 9 (by assumption) ?_
  refine wT 6 13 (by assumption) ?_
  refine wT 3 10 (by assumption) ?_
  refine wT 7 14 (by assumption) ?_
  refine wpAnyH_ready (rs := [8]) (by kernel_rfl) (by simp) ?_
  refine AllReadyH.cons (o := ⟨some 15, _, _, _, _, _⟩) rfl (fun K hK => ?_) AllReadyH.nil
  obtain ⟨hS1, hS2⟩ := hHeld
  go_simp
  (go_at_call 232; (with_reducible refine (PL.out _).mono ?_); rintro e w5 ⟨rfl, hs5⟩)
  refine hK.out _ _ (by (try dsimp only); (first | exact ⟨hS1, hS2⟩ | exact ⟨Step.of, (bcell (fut _ _)).1⟩)) (fun hHeld => ?_)
  clear hK K
  (try simp only [Act.put, List.setIfInBounds_toArray, List.set_cons_zero, List.set_cons_succ])
  refine wT 9 6 (by assumption) ?_
  refine wpAnyH_done (by kernel_rfl) ?_ _
  go_wp2_with fail
  go_ret
  exact ⟨rfl, Step.of⟩
theorem row_takes {rs : List RowA} {n : Nat} {x : RowA} (h : rs.length = n + 1) (hx : rs[n]? = some x) : rs = rs.take n ++ [x] := by
  have h1 := List.take_append_drop n rs
  obtain ⟨hn, e⟩ := List.getElem?_eq_some_iff.1 hx
  rw [List.drop_eq_getElem_cons hn, e, List.drop_eq_nil_of_le (by omega)] at h1
  exact h1.symm
theorem OwnR.pop {w : World} {base g c n : Nat} {rs : List RowA} {x : RowA} (h : OwnR w base (some ⟨g, 0, none⟩) (n + 1) c rs) (hl : rs.length = n + 1) (hx : rs[n]? = some x) : OwnR w base (some ⟨g, 0, none⟩) n c (rs.take n) := by
  refine ⟨?_, fun r hr => h.rows r (List.mem_of_mem_take hr)⟩
  have h1 := h.out
  unfold Own at h1 ⊢
  rw [List.length_map, hl, row_takes hl hx, List.map_append, List.flatten_append] at h1
  have h2 := ownsRow_pop (n := n) (by
    have e : ∀ l : List RowA, (l.map RowA.cells).flatten.length = l.length := by
      intro l
      induction l with
      | nil => rfl
      | cons a l ih => simp [RowA.cells] at ih ⊢; exact ih
    rw [e]; simp; omega) h1
  have e2 : ((rs.take n).map RowA.cells).length = n := by simp; omega
  rw [e2]
  exact h2
theorem OwnR.grownP {w w' : World} {base gp n c : Nat} {A : Option Addr} {rs : List RowA} {cs : List Value} (h : OwnR w base A n c rs) (hp : Blk w gp 141 cs) (hg : w.grownBy w' (some gp)) : OwnR w' base A n c rs :=
  ⟨h.out.grown_other hg (fun k hk e => h.out.ne_ hp (by decide) (e.trans hk.symm)), fun r hr => (h.rows r hr).grown_other hg (fun k hk e => (h.rows r hr).ne_ hp (by decide) (e.trans hk.symm))⟩
set_option maxRecDepth 100000 in
theorem ppop_any {base : Nat} (gp n c : Nat) (A : Option Addr) (rs : List RowA) (x : RowA) (w : World) (hp : Blk w gp 141 [.slice A (n + 1) c]) (h : OwnR w base A (n + 1) c rs) (hl : rs.length = n + 1) (hx : rs[n]? = some x) (hb : n ≤ 5864062014800) :
    Calls Tryz.prog 233 #[.pointer (some ⟨gp, 0, none⟩)] w fun e w' => e = .returned (.iface 67 (.agg #[x.sl])) ∧ Blk w' gp 141 [.slice A n c] ∧ OwnR w' base A n c (rs.take n) ∧ w.grownBy w' (some gp) := by
  obtain ⟨g, rfl, hg, hgl, hat, hfr, _⟩ := h.out.put (rows_fit rs).len (k := n) (j := 0) (cs := x.cells) (by simp [hx]) (by decide)
  have p0 := At.l1 hat
  simp only [Nat.mul_one] at p0
  have q0 := At.z1 hp.at0; have lq := hp.lt; have fq := hp.free
  have hn1 : (n : Int) < (n : Int) + 1 := by omega
  obtain ⟨A', c', hv, hc1, hc2, _, _⟩ := h.out.slice (n := n + 1) (rows_fit rs).len (by rw [List.length_map]; exact hl)
  cases hv
  simp only [maxLen] at hc2
  have hnc : (n : Int) ≤ (c : Int) := by omega
  have hc0 : (c = 0) = False := eq_false (by omega)
  have HO := hide (h.pop hl hx)
  have HP := hide hp
  go_enter Tryz.func233, Tryz.ntmps233
  go_wp2_with fail
  have hgr : w.grownBy ((w.setCell ⟨gp, 0, none⟩ (.slice (some ⟨g, 0, none⟩) n c)).alloc (.cells #[x.sl] 67)) (some gp) := (grown_setCell w gp 0 _).trans (World.grownBy_alloc _ _ _)
  go_ret
  exact ⟨rfl, (HP.out.set_ 0 (.slice (some ⟨g, 0, none⟩) n c)).alloc _, HO.out.grownP HP.out hgr, hgr⟩
end Go.Proofs.YtnphokhehacfnaaGreatDoor
namespace Go.Proofs.YtnphokhehacfnaaGreatDoor
open Go.RowKit

/-- Rows in order of their values. -/
def ltA (a b : RowA) : Bool := lessL a.vs b.vs
theorem weakA : Weak ltA := ⟨fun x => lessL_weak.irr x.vs, fun x y => lessL_weak.asym x.vs y.vs, fun x y z => lessL_weak.tr x.vs y.vs z.vs⟩
/-- Of what was there only block p and block q may have turned. -/
structure Only (w w' : World) (p : Nat) (q : Option Nat) : Prop where
  size : w.heap.size ≤ w'.heap.size
  block : ∀ k, k < w.heap.size → k ≠ p → some k ≠ q → w'.heap[k]? = w.heap[k]?
theorem Only.refl (w : World) (p : Nat) (q : Option Nat) : Only w w p q := ⟨Nat.le_refl _, fun _ _ _ _ => rfl⟩
theorem Only.trans {w w' w'' : World} {p : Nat} {q : Option Nat} (h : Only w w' p q) (h2 : Only w' w'' p q) : Only w w'' p q :=
  ⟨Nat.le_trans h.size h2.size, fun k hk h1 h3 => (h2.block k (Nat.lt_of_lt_of_le hk h.size) h1 h3).trans (h.block k hk h1 h3)⟩
theorem Only.below {w w' : World} {p : Nat} {q : Option Nat} (h : Below w.heap.size w w') : Only w w' p q := ⟨h.size, fun k hk _ _ => h.block k hk⟩
theorem Only.grown {w w' : World} {p : Nat} {q : Option Nat} (h : w.grownBy w' q) : Only w w' p q := ⟨h.size, fun k hk _ h2 => h.block k hk h2⟩
theorem Only.grownP {w w' : World} {p : Nat} {q : Option Nat} (h : w.grownBy w' (some p)) : Only w w' p q := ⟨h.size, fun k hk h1 _ => h.block k hk (by simpa using h1)⟩
theorem Own.only {w w' : World} {base p : Nat} {q : Option Nat} {e : TypeId} {size : Nat} {v : Value} {l : List (List Value)} (h : Own w base e size v l) (ho : Only w w' p q) (hne : ∀ k, v.ownBlock = some k → k ≠ p ∧ some k ≠ q) : Own w' base e size v l := by
  refine ⟨h.1, ?_⟩
  rcases h.2 with h2 | ⟨g, cap, cur, hv, hg, hh, r⟩
  · exact .inl h2
  · have h3 := hne g (by rw [hv]; rfl)
    exact .inr ⟨g, cap, cur, hv, hg, by rw [ho.block g (Array.getElem?_eq_some_iff.1 hh).1 h3.1 h3.2]; exact hh, r⟩
def IsB (e : Ending) : Prop := ∃ b, e = .returned (.bool b)
theorem isB (b : Bool) : IsB (.returned (.bool b)) := ⟨b, rfl⟩
def FineR (r : RowA) : Prop := r.vs.length ≤ 3518437208780 ∧ ∀ v ∈ r.vs, v.s.size ≤ 9223372036854775807
set_option maxRecDepth 100000 in
set_option maxHeartbeats 16000000 in
theorem pdown_any {w0 : World} (gp N c i0 n : Nat) (A : Option Addr) (rs : List RowA) (w : World) [f0 : Fut w0 w] (hl : rs.length = N) (hN : N ≤ 5864062014800) (hn : n ≤ N) (hi0 : i0 ≤ N) (ho : OwnR w w0.heap.size A N c rs) (hp : Blk w gp 141 [.slice A N c]) (hh : HeapBut ltA rs n i0 i0) (hf : ∀ r ∈ rs, FineR r) :
    Calls Tryz.prog 155 #[.iface 143 (.pointer (some ⟨gp, 0, none⟩)), .int .i64 i0, .int .i64 n] w fun e w' => IsB e ∧ ∃ ls : List RowA, ls.length = N ∧ ls.Perm rs ∧ (∀ k, n ≤ k → ls[k]? = rs[k]?) ∧ HeapFrom ltA ls n i0 ∧ OwnR w' w0.heap.size A N c ls ∧ Blk w' gp 141 [.slice A N c] ∧ Only w w' gp (Value.slice A N c).ownBlock ∧ Step w0 w' := by
  have z0 := f0.below.size
  have HF := hide hf
  have HO0 := hide ho; have HB0 := hide hp; have HH0 := hide hh; have HL0 := hide hl
  clear hf ho hp hh
  go_enter Tryz.func155, Tryz.ntmps155
  go_wp2_with fail
  go_loopw [7, 8, 9, 10] (fun iv _ _ _ wr => ∃ (i : Nat) (ls : List RowA), (i ≤ i0 ∨ i < n) ∧ iv = .int .i64 i ∧ Hid (ls.length = N) ∧ ls.Perm rs ∧ (∀ k, n ≤ k → ls[k]? = rs[k]?) ∧ HeapBut ltA ls n i0 i ∧ OwnR wr w0.heap.size A N c ls ∧ Blk wr gp 141 [.slice A N c] ∧ Only w wr gp (Value.slice A N c).ownBlock ∧ Step w0 wr) (fun iv _ _ _ _ => n - (intOf iv).toNat)
  case atStart => exact ⟨i0, rs, .inl (Nat.le_refl _), rfl, HL0.out, List.Perm.refl _, fun _ _ => rfl, HH0.out, HO0.out, HB0.out, Only.refl _ _ _, ⟨f0.below⟩⟩
  case round =>
    obtain ⟨i, ls, hin, rfl, HLN, hpe, htl, hhb, how, hbp, hon, hst⟩ := hrel
    clear HO0 HB0 HH0
    have HPE := hide hpe; have HTL := hide htl; have HHB := hide hhb; have HO := hide how; have HB := hide hbp; have HON := hide hon
    clear hpe htl hhb how hbp hon
    obtain ⟨wo, rfl⟩ : ∃ x : World, x = wr := ⟨_, rfl⟩
    have hzo := hst.size
    have hiN : i ≤ N := by omega
    have hri : RowsIn wo ls A c := by
      have h_ := HO.out
      rw [← HLN.out] at h_
      exact h_.rin (by rw [HLN.out]; exact hN) (fun vs hv => by
        obtain ⟨r, hr, rfl⟩ := List.mem_map.1 hv
        exact HF.out r (HPE.out.mem_iff.1 hr))
    have HRI := hide hri
    clear hri
    have p0 := At.z1 HB.out.at0
    have lp0 := HB.out.lt
    obtain ⟨j1, e1⟩ : ∃ j1 : Nat, 2 * (i : Int) + 1 = (j1 : Int) := ⟨2 * i + 1, by omega⟩
    obtain ⟨j2, e2⟩ : ∃ j2 : Nat, (j1 : Int) + 1 = (j2 : Int) := ⟨j1 + 1, by omega⟩
    have hi0_ : (0 : Int) ≤ (i : Int) := by omega
    by_cases h1 : j1 < n
    · have h1' : (j1 : Int) < (n : Int) := by omega
      have h10 : ¬ (j1 : Int) < 0 := by omega
      obtain ⟨x, hx⟩ : ∃ x, ls[i]? = some x := ⟨_, List.getElem?_eq_getElem (by have := HLN.out; omega)⟩
      obtain ⟨y1, hy1⟩ : ∃ y, ls[j1]? = some y := ⟨_, List.getElem?_eq_getElem (by have := HLN.out; omega)⟩
      have HX := hide hx; have HY1 := hide hy1
      clear hx hy1
      by_cases h2 : j2 < n
      · have h2' : (j2 : Int) < (n : Int) := by omega
        obtain ⟨y2, hy2⟩ : ∃ y, ls[j2]? = some y := ⟨_, List.getElem?_eq_getElem (by have := HLN.out; omega)⟩
        have HY2 := hide hy2
        clear hy2
        have ml := m_less gp N c A wo p0
        have PL1 := pless2_any ls A c j2 j1 y2 y1 wo HRI.out HY2.out HY1.out
        rw [HLN.out] at PL1
        cases h21 : lessL y2.vs y1.vs with
        | true =>
          rw [h21] at PL1
          have HJ := hide HY2.out
          have HCJ : Child i j2 := by unfold Child; omega
          have HMJ : Hid (∀ c, c < n → Child i c → LeAt ltA ls j2 c) := fun c hc hch a b ha hb => by
            rw [HY2.out] at ha; injection ha with ha; subst ha
            rcases (show c = j1 ∨ c = j2 by unfold Child at hch; omega) with e | e
            · rw [e, HY1.out] at hb; injection hb with hb; subst hb
              exact weakA.asym y2 y1 h21
            · rw [e, HY2.out] at hb; injection hb with hb; subst hb
              exact weakA.irr y2
          have PL1 := hide PL1
          clear h21
          go_upto_region 8 with (go_at_call 230; (with_reducible refine PL1.out.mono ?_); rintro e w5 ⟨rfl, hs5⟩; have b5_ := HB.out.fut (w' := w5); have p5 := At.z1 b5_.at0; have l5 := b5_.lt; clear b5_)
          have HMIN : Hid (∀ c, c < n → Child i c → LeAt ltA ls j2 c) := HMJ.out
          have ml6 := m_less gp N c A w5 p5
          have PL2 := hide (fun w' [Fut wo w'] => pless2_any ls A c j2 i y2 x w' HRI.out HJ.out HX.out)
          rw [HLN.out] at PL2
          cases hji : lessL y2.vs x.vs with
          | false =>
            have HEND := hide (HHB.out.stop (fun c hc hch a b ha hb => by
              rw [HX.out] at ha; injection ha with ha; subst ha
              exact weakA.tr x y2 b hji (HMIN.out c hc hch y2 b HJ.out hb)))
            rw [hji] at PL2
            have PL3 := hide PL2.out
            clear PL2 hji
            go_wp2_with (go_at_call 230; (with_reducible refine (PL3.out _).mono ?_); rintro e w8 ⟨rfl, hs8⟩)
            go_ret
            exact ⟨isB _, ls, HLN.out, HPE.out, HTL.out, HEND.out, HO.out.fut, HB.out.fut, HON.out.trans (Only.below (fut wo _)), Step.of⟩
          | true =>
            have HNX := hide (HHB.out.swap weakA HX.out HJ.out HCJ (by omega) HMIN.out hji)
            rw [hji] at PL2
            have PL3 := hide PL2.out
            clear PL2 hji
            go_upto_region 9 with (go_at_call 230; (with_reducible refine (PL3.out _).mono ?_); rintro e w8 ⟨rfl, hs8⟩; have b8_ := HB.out.fut (w' := w8); have p8 := At.z1 b8_.at0; have ms8 := m_swap gp N c A w8 p8; have l8 := b8_.lt; clear b8_)
            have HO8 := hide (OwnR.fut (w' := w8) HO.out)
            have PSW := pswap_any ls A c i j2 x y2 w8 (by rw [HLN.out]; exact HO8.out) HX.out HJ.out
            rw [HLN.out] at PSW
            have PSW := hide PSW
            go_wp2_with (go_at_call 231; (with_reducible refine PSW.out.mono ?_); rintro e w9 ⟨rfl, ho9, hg9⟩; have HO9 := hide ho9; have HB9 := hide ((HB.out.fut (w' := w8)).grown hg9 (HO8.out.out.ne_ (HB.out.fut (w' := w8)) (by decide))); have HON9 := hide ((HON.out.trans (Only.below (fut wo w8))).trans (Only.grown hg9)); have hs9 : Step w0 w9 := ⟨(fut w0 w8).trans (below_of_grown HO8.out.out hg9 (fut w0 w8).size)⟩; clear ho9 hg9)
            go_roundw
            case rel => exact ⟨j2, swp ls i j2 x y2, by omega, by go_num, by show _ = _; rw [swp_len]; exact HLN.out, (swp_perm HX.out HJ.out).trans HPE.out, fun k hk => by rw [swp_get HX.out HJ.out, if_neg (by omega), if_neg (by omega)]; exact HTL.out k hk, HNX.out, HO9.out, HB9.out, HON9.out, hs9⟩
            case measure => simp [intOf]; omega
        | false =>
          rw [h21] at PL1
          have HJ := hide HY1.out
          have HCJ : Child i j1 := by unfold Child; omega
          have HMJ : Hid (∀ c, c < n → Child i c → LeAt ltA ls j1 c) := fun c hc hch a b ha hb => by
            rw [HY1.out] at ha; injection ha with ha; subst ha
            rcases (show c = j1 ∨ c = j2 by unfold Child at hch; omega) with e | e
            · rw [e, HY1.out] at hb; injection hb with hb; subst hb
              exact weakA.irr y1
            · rw [e, HY2.out] at hb; injection hb with hb; subst hb
              exact h21
          have PL1 := hide PL1
          clear h21
          go_upto_region 8 with (go_at_call 230; (with_reducible refine PL1.out.mono ?_); rintro e w5 ⟨rfl, hs5⟩; have b5_ := HB.out.fut (w' := w5); have p5 := At.z1 b5_.at0; have l5 := b5_.lt; clear b5_)
          have HMIN : Hid (∀ c, c < n → Child i c → LeAt ltA ls j1 c) := HMJ.out
          have ml6 := m_less gp N c A w5 p5
          have PL2 := hide (fun w' [Fut wo w'] => pless2_any ls A c j1 i y1 x w' HRI.out HJ.out HX.out)
          rw [HLN.out] at PL2
          cases hji : lessL y1.vs x.vs with
          | false =>
            have HEND := hide (HHB.out.stop (fun c hc hch a b ha hb => by
              rw [HX.out] at ha; injection ha with ha; subst ha
              exact weakA.tr x y1 b hji (HMIN.out c hc hch y1 b HJ.out hb)))
            rw [hji] at PL2
            have PL3 := hide PL2.out
            clear PL2 hji
            go_wp2_with (go_at_call 230; (with_reducible refine (PL3.out _).mono ?_); rintro e w8 ⟨rfl, hs8⟩)
            go_ret
            exact ⟨isB _, ls, HLN.out, HPE.out, HTL.out, HEND.out, HO.out.fut, HB.out.fut, HON.out.trans (Only.below (fut wo _)), Step.of⟩
          | true =>
            have HNX := hide (HHB.out.swap weakA HX.out HJ.out HCJ (by omega) HMIN.out hji)
            rw [hji] at PL2
            have PL3 := hide PL2.out
            clear PL2 hji
            go_upto_region 9 with (go_at_call 230; (with_reducible refine (PL3.out _).mono ?_); rintro e w8 ⟨rfl, hs8⟩; have b8_ := HB.out.fut (w' := w8); have p8 := At.z1 b8_.at0; have ms8 := m_swap gp N c A w8 p8; have l8 := b8_.lt; clear b8_)
            have HO8 := hide (OwnR.fut (w' := w8) HO.out)
            have PSW := pswap_any ls A c i j1 x y1 w8 (by rw [HLN.out]; exact HO8.out) HX.out HJ.out
            rw [HLN.out] at PSW
            have PSW := hide PSW
            go_wp2_with (go_at_call 231; (with_reducible refine PSW.out.mono ?_); rintro e w9 ⟨rfl, ho9, hg9⟩; have HO9 := hide ho9; have HB9 := hide ((HB.out.fut (w' := w8)).grown hg9 (HO8.out.out.ne_ (HB.out.fut (w' := w8)) (by decide))); have HON9 := hide ((HON.out.trans (Only.below (fut wo w8))).trans (Only.grown hg9)); have hs9 : Step w0 w9 := ⟨(fut w0 w8).trans (below_of_grown HO8.out.out hg9 (fut w0 w8).size)⟩; clear ho9 hg9)
            go_roundw
            case rel => exact ⟨j1, swp ls i j1 x y1, by omega, by go_num, by show _ = _; rw [swp_len]; exact HLN.out, (swp_perm HX.out HJ.out).trans HPE.out, fun k hk => by rw [swp_get HX.out HJ.out, if_neg (by omega), if_neg (by omega)]; exact HTL.out k hk, HNX.out, HO9.out, HB9.out, HON9.out, hs9⟩
            case measure => simp [intOf]; omega
      · have h2' : ¬ (j2 : Int) < (n : Int) := by omega
        have HJ := hide HY1.out
        have HCJ : Child i j1 := by unfold Child; omega
        have HMJ : Hid (∀ c, c < n → Child i c → LeAt ltA ls j1 c) := fun c hc hch a b ha hb => by
          rw [HY1.out] at ha; injection ha with ha; subst ha
          rcases (show c = j1 by unfold Child at hch; omega) with e
          rw [e, HY1.out] at hb; injection hb with hb; subst hb
          exact weakA.irr y1
        go_upto_region 8 with (fail)
        have HMIN : Hid (∀ c, c < n → Child i c → LeAt ltA ls j1 c) := HMJ.out
        have ml6 := m_less gp N c A wo p0
        have PL2 := hide (fun w' [Fut wo w'] => pless2_any ls A c j1 i y1 x w' HRI.out HJ.out HX.out)
        rw [HLN.out] at PL2
        cases hji : lessL y1.vs x.vs with
        | false =>
          have HEND := hide (HHB.out.stop (fun c hc hch a b ha hb => by
            rw [HX.out] at ha; injection ha with ha; subst ha
            exact weakA.tr x y1 b hji (HMIN.out c hc hch y1 b HJ.out hb)))
          rw [hji] at PL2
          have PL3 := hide PL2.out
          clear PL2 hji
          go_wp2_with (go_at_call 230; (with_reducible refine (PL3.out _).mono ?_); rintro e w8 ⟨rfl, hs8⟩)
          go_ret
          exact ⟨isB _, ls, HLN.out, HPE.out, HTL.out, HEND.out, HO.out.fut, HB.out.fut, HON.out.trans (Only.below (fut wo _)), Step.of⟩
        | true =>
          have HNX := hide (HHB.out.swap weakA HX.out HJ.out HCJ (by omega) HMIN.out hji)
          rw [hji] at PL2
          have PL3 := hide PL2.out
          clear PL2 hji
          go_upto_region 9 with (go_at_call 230; (with_reducible refine (PL3.out _).mono ?_); rintro e w8 ⟨rfl, hs8⟩; have b8_ := HB.out.fut (w' := w8); have p8 := At.z1 b8_.at0; have ms8 := m_swap gp N c A w8 p8; have l8 := b8_.lt; clear b8_)
          have HO8 := hide (OwnR.fut (w' := w8) HO.out)
          have PSW := pswap_any ls A c i j1 x y1 w8 (by rw [HLN.out]; exact HO8.out) HX.out HJ.out
          rw [HLN.out] at PSW
          have PSW := hide PSW
          go_wp2_with (go_at_call 231; (with_reducible refine PSW.out.mono ?_); rintro e w9 ⟨rfl, ho9, hg9⟩; have HO9 := hide ho9; have HB9 := hide ((HB.out.fut (w' := w8)).grown hg9 (HO8.out.out.ne_ (HB.out.fut (w' := w8)) (by decide))); have HON9 := hide ((HON.out.trans (Only.below (fut wo w8))).trans (Only.grown hg9)); have hs9 : Step w0 w9 := ⟨(fut w0 w8).trans (below_of_grown HO8.out.out hg9 (fut w0 w8).size)⟩; clear ho9 hg9)
          go_roundw
          case rel => exact ⟨j1, swp ls i j1 x y1, by omega, by go_num, by show _ = _; rw [swp_len]; exact HLN.out, (swp_perm HX.out HJ.out).trans HPE.out, fun k hk => by rw [swp_get HX.out HJ.out, if_neg (by omega), if_neg (by omega)]; exact HTL.out k hk, HNX.out, HO9.out, HB9.out, HON9.out, hs9⟩
          case measure => simp [intOf]; omega
    · have h1' : ¬ (j1 : Int) < (n : Int) := by omega
      have HEND := hide (HHB.out.stop (fun c hc hch => absurd hch (by unfold Child; omega)))
      go_wp2_with fail
      go_ret
      exact ⟨isB _, ls, HLN.out, HPE.out, HTL.out, HEND.out, HO.out.fut, HB.out.fut, HON.out.trans (Only.below (fut wo _)), Step.of⟩
end Go.Proofs.YtnphokhehacfnaaGreatDoor
namespace Go.Proofs.YtnphokhehacfnaaGreatDoor
open Go.RowKit

set_option maxRecDepth 100000 in
set_option maxHeartbeats 4000000 in
theorem pinit_any {w0 : World} (gp N c : Nat) (A : Option Addr) (rs : List RowA) (w : World) [f0 : Fut w0 w] (hl : rs.length = N) (hN : N ≤ 5864062014800) (ho : OwnR w w0.heap.size A N c rs) (hp : Blk w gp 141 [.slice A N c]) (hf : ∀ r ∈ rs, FineR r) :
    Calls Tryz.prog 116 #[.iface 143 (.pointer (some ⟨gp, 0, none⟩))] w fun e w' => e = .returned (.tuple #[]) ∧ ∃ ls : List RowA, ls.length = N ∧ ls.Perm rs ∧ HeapFrom ltA ls N 0 ∧ OwnR w' w0.heap.size A N c ls ∧ Blk w' gp 141 [.slice A N c] ∧ Only w w' gp (Value.slice A N c).ownBlock ∧ Step w0 w' := by
  have HF := hide hf; have HL0 := hide hl; have HO0 := hide ho; have HB0 := hide hp
  have p0 := At.z1 hp.at0
  have lp0 := hp.lt
  have ml := m_len gp N c A w p0
  have hdv : ∃ m : Nat, (N : Int) / 2 = (m : Int) ∧ N ≤ 2 * m + 1 ∧ m ≤ N := ⟨N / 2, by omega, by omega, by omega⟩
  obtain ⟨m0, e0, hm1, hm2⟩ := hdv
  have hN0 : (0 : Int) ≤ (N : Int) := by omega
  clear hf hl ho hp
  go_enter Tryz.func116, Tryz.ntmps116
  go_wp2_with (go_at_call 117; refine (plen_any A N c _).mono ?_; rintro e w_ ⟨rfl, rfl⟩)
  clear ml p0 lp0
  go_loopw [3] (fun iv wr => ∃ (m : Nat) (ls : List RowA), m ≤ N ∧ iv = .int .i64 ((m : Int) - 1) ∧ Hid (ls.length = N) ∧ ls.Perm rs ∧ HeapFrom ltA ls N m ∧ OwnR wr w0.heap.size A N c ls ∧ Blk wr gp 141 [.slice A N c] ∧ Only w wr gp (Value.slice A N c).ownBlock ∧ Step w0 wr) (fun iv _ => (intOf iv + 1).toNat)
  case atStart => exact ⟨m0, rs, hm2, by first | rfl | (simp only [Value.int.injEq, true_and]; omega), HL0.out, List.Perm.refl _, heap_leaf hm1, HO0.out, HB0.out, Only.refl _ _ _, ⟨f0.below⟩⟩
  case round =>
    obtain ⟨m, ls, hmN, rfl, HLN, hpe, hhf, how, hbp, hon, hst⟩ := hrel
    have HPE := hide hpe; have HHF := hide hhf; have HO := hide how; have HB := hide hbp; have HON := hide hon
    clear hpe hhf how hbp hon HO0 HB0
    obtain ⟨wo, rfl⟩ : ∃ x : World, x = wr := ⟨_, rfl⟩
    have hzo := hst.size
    rcases Nat.eq_zero_or_pos m with e | e
    · subst e
      have en : ((0 : Nat) : Int) - 1 = -1 := by omega
      rw [en]
      go_wp2_with fail
      go_end0
      exact ⟨rfl, ls, HLN.out, HPE.out, HHF.out, HO.out.fut, HB.out.fut, HON.out.trans (Only.below (fut wo _)), Step.of⟩
    · obtain ⟨k, rfl⟩ : ∃ k, m = k + 1 := ⟨m - 1, by omega⟩
      have en : ((k + 1 : Nat) : Int) - 1 = (k : Int) := by omega
      rw [en]
      have hk0 : (0 : Int) ≤ (k : Int) := by omega
      have hkN : (k : Int) < 5864062014800 := by omega
      have PD := hide (pdown_any (w0 := w0) gp N c k N A ls wo HLN.out hN (Nat.le_refl _) (by omega) HO.out HB.out (heap_but HHF.out) (fun r hr => HF.out r (HPE.out.mem_iff.1 hr)))
      go_wp2_with (go_at_call 155; (with_reducible refine PD.out.mono ?_); rintro e w5 ⟨⟨b5, rfl⟩, ls5, hl5, hp5, _, hh5, ho5, hb5, hon5, hs5⟩; have HL5 := hide hl5; have HP5 := hide hp5; have HH5 := hide hh5; have HO5 := hide ho5; have HB5 := hide hb5; have HON5 := hide hon5; clear hl5 hp5 hh5 ho5 hb5 hon5)
      go_roundw
      case rel => exact ⟨k, ls5, by omega, by rfl, HL5.out, HP5.out.trans HPE.out, HH5.out, HO5.out, HB5.out, HON.out.trans HON5.out, hs5⟩
      case measure => simp [intOf]

set_option maxRecDepth 100000 in
set_option maxHeartbeats 4000000 in
theorem phpop_any {w0 : World} (gp n c : Nat) (A : Option Addr) (rs : List RowA) (w : World) [f0 : Fut w0 w] (hl : rs.length = n + 1) (hN : n + 1 ≤ 5864062014800) (hg : w0.heap.size ≤ gp) (ho : OwnR w w0.heap.size A (n + 1) c rs) (hp : Blk w gp 141 [.slice A (n + 1) c]) (hh : HeapFrom ltA rs (n + 1) 0) (hf : ∀ r ∈ rs, FineR r) :
    Calls Tryz.prog 118 #[.iface 143 (.pointer (some ⟨gp, 0, none⟩))] w fun e w' => ∃ (x : RowA) (ls : List RowA), e = .returned (.iface 67 (.agg #[x.sl])) ∧ ls.length = n ∧ rs.Perm (ls ++ [x]) ∧ (∀ y ∈ rs, ltA y x = false) ∧ HeapFrom ltA ls n 0 ∧ OwnR w' w0.heap.size A n c ls ∧ Own w' w0.heap.size 36 4 (.slice x.A x.vs.length x.cap) (x.vs.map Val.cells) ∧ Blk w' gp 141 [.slice A n c] ∧ Only w w' gp (Value.slice A (n + 1) c).ownBlock ∧ Step w0 w' := by
  have HF := hide hf; have HL0 := hide hl; have HO := hide ho; have HB := hide hp; have HH := hide hh
  obtain ⟨x, hx⟩ : ∃ x, rs[0]? = some x := ⟨_, List.getElem?_eq_getElem (by omega)⟩
  obtain ⟨y, hy⟩ : ∃ y, rs[n]? = some y := ⟨_, List.getElem?_eq_getElem (by omega)⟩
  have HX := hide hx; have HY := hide hy
  have hmin := heap_least weakA (by rw [hl]; exact hh) hx
  have HMN := hide hmin
  have p0 := At.z1 hp.at0
  have lp0 := hp.lt
  have ml := m_len gp (n + 1) c A w p0
  have ms := m_swap gp (n + 1) c A w p0
  have PSW := pswap_any rs A c 0 n x y w (by rw [hl]; exact ho) hx hy
  have e00 : ((0 : Nat) : Int) = 0 := rfl
  rw [hl, e00] at PSW
  have PSW := hide PSW
  have z0 := f0.below.size
  have hl1 : (swp rs 0 n x y).length = n + 1 := by rw [swp_len]; exact hl
  have HL1 := hide hl1
  have HB1_ := hide (heap_pop hh hx hy)
  have PM := hide (swp_perm hx hy)
  have mp := m_pop gp
  have HXN : Hid ((swp rs 0 n x y)[n]? = some x) := by show _ = _; rw [swp_get hx hy, if_pos rfl]
  clear hf hl ho hp hh hx hy hmin hl1
  have hn0 : (0 : Int) ≤ (n : Int) := by omega
  have hnN : (n : Int) < 5864062014800 := by omega
  go_enter Tryz.func118, Tryz.ntmps118
  go_upto_region 3 with (first
    | (go_at_call 117; refine (plen_any A (n + 1) c _).mono ?_; rintro e w_ ⟨rfl, rfl⟩)
    | (go_at_call 231; (with_reducible refine PSW.out.mono ?_); rintro e w1 ⟨rfl, ho1, hg1⟩; have HO1 := hide ho1; have HG1 := hide hg1; clear ho1 hg1))
  have HB1 := hide (HB.out.grown HG1.out (HO.out.out.ne_ HB.out (by decide)))
  have hs1 : Step w0 w1 := ⟨f0.below.trans (below_of_grown HO.out.out HG1.out z0)⟩
  have PD := pdown_any (w0 := w0) gp (n + 1) c 0 n A (swp rs 0 n x y) w1 HL1.out hN (by omega) (by omega) HO1.out HB1.out HB1_.out (fun r hr => HF.out r (PM.out.mem_iff.1 hr))
  rw [e00] at PD
  have PD := hide PD
  clear ml ms p0 lp0
  go_upto_region 4 with (go_at_call 155; (with_reducible refine PD.out.mono ?_); rintro e w2 ⟨⟨b2, rfl⟩, ls2, hl2, hp2, ht2, hh2, ho2, hb2, hon2, hs2⟩; have HL2 := hide hl2; have HP2 := hide hp2; have HT2 := hide ht2; have HH2 := hide hh2; have HO2 := hide ho2; have HB2 := hide hb2; have HON2 := hide hon2; clear hl2 hp2 ht2 hh2 ho2 hb2 hon2)
  have HX2 : Hid (ls2[n]? = some x) := by show _ = _; rw [HT2.out n (Nat.le_refl _)]; exact HXN.out
  have PP_ := hide (ppop_any gp n c A ls2 x w2 HB2.out HO2.out HL2.out HX2.out (by omega))
  go_wp2_with (go_at_call 233; (with_reducible refine PP_.out.mono ?_); rintro e w3 ⟨rfl, hb3, ho3, hg3⟩; have HB3 := hide hb3; have HO3 := hide ho3; have HG3 := hide hg3; clear hb3 ho3 hg3)
  have hs3 : Step w0 w3 := ⟨(fut w0 w2).grown HG3.out (fut w0 w2).size (by rintro k ⟨⟩; exact hg)⟩
  have HT3 := hide (row_takes HL2.out HX2.out)
  go_ret
  exact ⟨x, ls2.take n, rfl, by rw [List.length_take, HL2.out]; omega, by rw [← HT3.out]; exact PM.out.symm.trans HP2.out.symm, HMN.out, heap_take HH2.out, HO3.out, (HO2.out.grownP HB2.out HG3.out).rows x (List.mem_of_getElem? HX2.out), HB3.out, ((Only.grown HG1.out).trans HON2.out).trans (Only.grownP HG3.out), hs3⟩
end Go.Proofs.YtnphokhehacfnaaGreatDoor
namespace Go.Proofs.YtnphokhehacfnaaGreatDoor
open Go.RowKit

theorem eiPile : EI Tryz.prog 141 67 1 24 :=
  ⟨Tryz.underlying141, info_parts (show (Tryz.prog.info? 67).map (fun i => (i.zero, i.size, i.bytes)) = some (some (.agg #[.slice none 0 0]), 1, 24) by kernel_rfl) |>.elim fun i h => ⟨i, _, h.1, h.2.1, h.2.2.1, h.2.2.2, rfl⟩, by decide, by decide⟩
def lenV : Value → Nat
  | .slice _ n _ => n
  | _ => 0
theorem run_assert (u : Value) (w : World) : (Instr.typeAssert (.iface 67 (.agg #[u])) 20 67 true).run Tryz.prog w = .ok (.tuple #[.agg #[u], .bool true]) w := by kernel_rfl
theorem OwnR.grownQ {w w' : World} {base B n c : Nat} {A : Option Addr} {rs : List RowA} {v : Value} {l : List (List Value)} (h : OwnR w base A n c rs) (ho : Own w B 67 1 v l) (hlt : ∀ q, (Value.slice A n c).ownBlock = some q → q < B) (hg : w.grownBy w' v.ownBlock) : OwnR w' base A n c rs :=
  ⟨h.out.grown_other hg (fun k hk e => by have h1 := (ho.lt k e).1; have h2 := hlt k hk; omega), fun r hr => (h.rows r hr).grown_other hg (own_ne (h.rows r hr) ho (by decide))⟩
theorem ownBlock_any {A : Option Addr} {n c n' c' : Nat} : (Value.slice A n c).ownBlock = (Value.slice A n' c').ownBlock := by cases A <;> rfl
theorem clean_fine {v : Val} (h : v.s.size ≤ 9223372036854775807) : (clean v).s.size ≤ 9223372036854775807 := by
  rcases clean_cases v with ⟨_, e⟩ | ⟨_, e⟩ | ⟨_, e⟩ | ⟨_, e⟩ <;> rw [e] <;> first | exact h | exact Nat.zero_le _
theorem asc_map {l : List RowA} (h : Asc ltA l) : Asc lessL (l.map RowA.vs) := by
  unfold Asc at *
  rw [List.pairwise_map]
  exact h
def cleanL (vs : List Val) : List Val := vs.map clean
set_option maxRecDepth 100000 in
set_option maxHeartbeats 16000000 in
theorem psort_any {w0 : World} (rs : List RowA) (Ar : Option Addr) (cr : Nat) (w : World) (hr : RowsIn w0 rs Ar cr) [f0 : Fut w0 w] :
    Calls Tryz.prog 63 #[.slice Ar rs.length cr] w fun e w' => ∃ (A' : Option Addr) (c' : Nat) (os : List RowA), e = .returned (.slice A' rs.length c') ∧ os.length = rs.length ∧ Asc lessL (os.map RowA.vs) ∧ (os.map RowA.vs).Perm (rs.map fun r => cleanL r.vs) ∧ OwnR w' w.heap.size A' rs.length c' os ∧ Step w w' := by
  have z0 := f0.below.size
  have hrc := hr.hcap; have hrm := hr.hcapm
  obtain ⟨W, hW⟩ : ∃ W, W = w.alloc (.cells #[.slice none 0 0] 141) := ⟨_, rfl⟩
  have SW : Step w W := by rw [hW]; exact Step.of
  obtain ⟨gp, hgp⟩ : ∃ gp, gp = w.heap.size := ⟨_, rfl⟩
  have HG : Hid (Blk W gp 141 [.slice none 0 0]) := by rw [hW, hgp]; exact Blk.new w [.slice none 0 0] 141
  have NG : Newer w gp := ⟨by omega⟩
  have hgW : gp < W.heap.size := HG.out.lt
  have HW := hide hW
  have hzW := SW.size
  clear hW
  go_enter Tryz.func63, Tryz.ntmps63
  go_upto_region 2 with (fail)
  rw [← HW.out]
  rw [← hgp]
  clear hgp
  go_wp2_with fail
  go_loopw [5, 11] (fun _ i wr => ∃ (k : Nat) (A' : Option Addr) (c' : Nat) (ps : List RowA), k ≤ rs.length ∧ i = .int .i64 k ∧ Blk wr gp 141 [.slice A' k c'] ∧ OwnR wr w.heap.size A' k c' ps ∧ Hid (ps.map RowA.vs = (rs.take k).map fun r => cleanL r.vs) ∧ Hid (ps.length = k) ∧ Step w wr) (fun _ i _ => rs.length - (intOf i).toNat)
  case atStart => exact ⟨0, none, 0, [], Nat.zero_le _, rfl, HG.out, ⟨Own.nil_ _ _ _ _, fun r h => by simp at h⟩, rfl, rfl, SW⟩
  case round =>
    obtain ⟨k, A', c', ps, hk, rfl, hbp, how, HPS, HLN, hst⟩ := hrel
    clear HG
    have HO := hide how; have HB0 := hide hbp
    clear how hbp
    obtain ⟨wo, hwo⟩ : ∃ x : World, x = wr := ⟨_, rfl⟩
    rw [← hwo] at HO HB0 hst
    rw [← hwo]
    clear hwo
    have hzo := hst.size
    by_cases hlt : k < rs.length
    · obtain ⟨b2, off2, hA2, hb2, r, hrk, hri, hcell⟩ := hr.row (w' := wo) inferInstance hlt
      rw [hA2]
      have hlb2 : b2 < wo.heap.size := by omega
      have HTK : Hid (((rs.take (k + 1)).map fun r => cleanL r.vs) = ((rs.take k).map fun r => cleanL r.vs) ++ [r.vs.map clean]) := by show _ = _; rw [List.take_add_one, hrk]; simp [cleanL]
      have PC := hide (fun w' [Fut w0 w'] => pclone_any r w' hri)
      have hkl : (k : Int) < (rs.length : Int) := by omega
      have hk0 : (0 : Int) ≤ (k : Int) := by omega
      clear hrk hA2
      go_upto_region 5 with (fail)
      clear hcell hlb2
      obtain ⟨X, hX⟩ : ∃ X, X = wo.alloc (.cells #[.slice r.A r.vs.length r.cap] 67) := ⟨_, rfl⟩
      have SX : Step wo X := by rw [hX]; exact Step.of
      have HX1 : Hid (Blk X wo.heap.size 67 [.slice r.A r.vs.length r.cap]) := by rw [hX]; exact Blk.new wo [.slice r.A r.vs.length r.cap] 67
      rw [← hX]
      clear hX
      have hzX : w.heap.size ≤ X.heap.size := (fut w X).size
      have HB := hide (HB0.out.fut (w' := X))
      have HO := hide (OwnR.fut (w' := X) HO.out)
      have x0 := At.z1 HX1.out.at0; have lx := HX1.out.lt
      have k3 := At.z1 HB.out.at0; have lc3 := HB.out.lt
      refine wp_region_held_drew (S := (fun w' => Step w w' ∧ True)) (by kernel_rfl) (by (try dsimp only); (exact ⟨Step.of, trivial⟩)) (fun hHeld => ?_)
      refine wpAnyH_ready (rs := [0, 1]) (by kernel_rfl) (by simp) ?_
      refine AllReadyH.cons (o := ⟨some 15, _, _, _, _, _⟩) rfl (fun K hK => ?_) (AllReadyH.cons (o := ⟨some 16, _, _, _, _, _⟩) rfl (fun K hK => ?_) AllReadyH.nil)
      · go_simp
        refine hK.out _ _ (by (try dsimp only); (exact ⟨Step.of, trivial⟩)) (fun hHeld => ?_)
        clear hK K
        (try simp only [Act.put, List.setIfInBounds_toArray, List.set_cons_zero, List.set_cons_succ])
        refine wpAnyH_ready (rs := [1]) (by kernel_rfl) (by simp) ?_
        refine AllReadyH.cons (o := ⟨some 16, _, _, _, _, _⟩) rfl (fun K hK => ?_) AllReadyH.nil
        go_simp
        refine hK.out _ _ (by (try dsimp only); (exact ⟨Step.of, trivial⟩)) (fun hHeld => ?_)
        clear hK K
        (try simp only [Act.put, List.setIfInBounds_toArray, List.set_cons_zero, List.set_cons_succ])
        refine wpAnyH_ready (rs := [2]) (by kernel_rfl) (by simp) ?_
        refine AllReadyH.cons (o := ⟨some 17, _, _, _, _, _⟩) rfl (fun K hK => ?_) AllReadyH.nil
        obtain ⟨hS1, hS2⟩ := hHeld
        go_simp
        (go_at_call 115; (with_reducible refine (PC.out _).mono ?_); rintro e w6 ⟨A6, c6, rfl, ho6, hs6⟩; have HO6 := hide (ho6.more (base' := w.heap.size) (by first | exact hzX | exact (fut w X).size)); clear ho6 k3 lc3; have k_ := HB.out.fut (w' := w6); have k3 := At.z1 k_.at0; have lc3 := k_.lt; clear k_)
        refine hK.out _ _ (by (try dsimp only); (exact ⟨Step.of, trivial⟩)) (fun hHeld => ?_)
        clear hK K
        (try simp only [Act.put, List.setIfInBounds_toArray, List.set_cons_zero, List.set_cons_succ])
        refine wpAnyH_ready (rs := [3]) (by kernel_rfl) (by simp) ?_
        refine AllReadyH.cons (o := ⟨some 18, _, _, _, _, _⟩) rfl (fun K hK => ?_) AllReadyH.nil
        go_simp
        refine hK.out _ _ (by (try dsimp only); (exact ⟨Step.of, trivial⟩)) (fun hHeld => ?_)
        clear hK K
        (try simp only [Act.put, List.setIfInBounds_toArray, List.set_cons_zero, List.set_cons_succ])
        refine wpAnyH_ready (rs := [4]) (by kernel_rfl) (by simp) ?_
        refine AllReadyH.cons (o := ⟨some 19, _, _, _, _, _⟩) rfl (fun K hK => ?_) AllReadyH.nil
        (have HOW := hide ((HO.out.out.fut (w' := w6)).alloc (.cells #[.slice A6 r.vs.length c6] 67)); have HNew := hide (SlAt.one w6 1 [.slice A6 r.vs.length c6] 67); refine step_append_sl rfl (.tmp 15) (.tmp 18) 141 rfl eiPile (base := w.heap.size) (xs := ps.map RowA.cells) rfl HOW.out (rows_fit _) (ys := [[.slice A6 r.vs.length c6]]) rfl (by simp) HNew.out (slice_fit A6 r.vs.length c6) (by rw [List.length_map, HLN.out]; show (k + 1) * 24 ≤ _; omega) (fut w (w6.alloc (.cells #[.slice A6 r.vs.length c6] 67))).size (N := k + 1) (by rw [List.length_map, HLN.out]; rfl) ?_; intro A7 c7 w7 hq1 hq2 hown7 hgr7 hbel7; have HR7 := hide (OwnR.app (r := ⟨A6, c6, r.vs.map clean⟩) (OwnR.fut (w' := w6.alloc (.cells #[.slice A6 r.vs.length c6] 67)) HO.out) (by have q := HO6.out.alloc (.cells #[.slice A6 r.vs.length c6] 67); show Own _ _ _ _ (.slice A6 (r.vs.map clean).length c6) _; rw [List.length_map]; exact q) (by show Own _ _ _ _ _ (_ ++ [[.slice A6 (r.vs.map clean).length c6]]); rw [List.length_map]; exact hown7) hgr7); have hb3 := ((HB.out.fut (w' := w6)).alloc (.cells #[.slice A6 r.vs.length c6] 67)).grown hgr7 (HOW.out.ne_ ((HB.out.fut (w' := w6)).alloc (.cells #[.slice A6 r.vs.length c6] 67)) (by decide)); have hs7 : Step w w7 := ⟨(fut w (w6.alloc (.cells #[.slice A6 r.vs.length c6] 67))).trans hbel7⟩; clear k3 lc3; have k3 := At.z1 hb3.at0; have f3 := hb3.free; have lc3 := hb3.lt; have HD3 := hide hb3; clear hown7 hgr7 hbel7 hb3)
        refine hK.out _ _ (by (try dsimp only); (exact ⟨hs7, trivial⟩)) (fun hHeld => ?_)
        clear hK K
        (try simp only [Act.put, List.setIfInBounds_toArray, List.set_cons_zero, List.set_cons_succ])
        refine wpAnyH_ready (rs := [5]) (by kernel_rfl) (by simp) ?_
        refine AllReadyH.cons (o := ⟨none, _, _, _, _, _⟩) rfl (fun K hK => ?_) AllReadyH.nil
        go_simp
        refine hK.out _ _ (by (try dsimp only); (exact ⟨⟨(fut w w7).setCell NG.le _⟩, trivial⟩)) (fun hHeld => ?_)
        clear hK K
        (try simp only [Act.put, List.setIfInBounds_toArray, List.set_cons_zero, List.set_cons_succ])
        refine wpAnyH_done (by kernel_rfl) ?_ _
        go_wp2_with fail
        go_roundw
        case rel =>
          refine ⟨k + 1, A7, c7, ps ++ [⟨A6, c6, r.vs.map clean⟩], by omega, by go_num, HD3.out.set_ 0 _, HR7.out.grownP HD3.out (grown_setCell w7 gp 0 _), ?_, ?_, ⟨(fut w w7).setCell NG.le _⟩⟩
          · show _ = _; rw [HTK.out, List.map_append, HPS.out]; rfl
          · show _ = _; rw [List.length_append, HLN.out]; rfl
        case measure => simp [intOf]; omega
      · go_simp
        refine hK.out _ _ (by (try dsimp only); (exact ⟨Step.of, trivial⟩)) (fun hHeld => ?_)
        clear hK K
        (try simp only [Act.put, List.setIfInBounds_toArray, List.set_cons_zero, List.set_cons_succ])
        refine wpAnyH_ready (rs := [0, 2]) (by kernel_rfl) (by simp) ?_
        refine AllReadyH.cons (o := ⟨some 15, _, _, _, _, _⟩) rfl (fun K hK => ?_) (AllReadyH.cons (o := ⟨some 17, _, _, _, _, _⟩) rfl (fun K hK => ?_) AllReadyH.nil)
        · go_simp
          refine hK.out _ _ (by (try dsimp only); (exact ⟨Step.of, trivial⟩)) (fun hHeld => ?_)
          clear hK K
          (try simp only [Act.put, List.setIfInBounds_toArray, List.set_cons_zero, List.set_cons_succ])
          refine wpAnyH_ready (rs := [2]) (by kernel_rfl) (by simp) ?_
          refine AllReadyH.cons (o := ⟨some 17, _, _, _, _, _⟩) rfl (fun K hK => ?_) AllReadyH.nil
          obtain ⟨hS1, hS2⟩ := hHeld
          go_simp
          (go_at_call 115; (with_reducible refine (PC.out _).mono ?_); rintro e w6 ⟨A6, c6, rfl, ho6, hs6⟩; have HO6 := hide (ho6.more (base' := w.heap.size) (by first | exact hzX | exact (fut w X).size)); clear ho6 k3 lc3; have k_ := HB.out.fut (w' := w6); have k3 := At.z1 k_.at0; have lc3 := k_.lt; clear k_)
          refine hK.out _ _ (by (try dsimp only); (exact ⟨Step.of, trivial⟩)) (fun hHeld => ?_)
          clear hK K
          (try simp only [Act.put, List.setIfInBounds_toArray, List.set_cons_zero, List.set_cons_succ])
          refine wpAnyH_ready (rs := [3]) (by kernel_rfl) (by simp) ?_
          refine AllReadyH.cons (o := ⟨some 18, _, _, _, _, _⟩) rfl (fun K hK => ?_) AllReadyH.nil
          go_simp
          refine hK.out _ _ (by (try dsimp only); (exact ⟨Step.of, trivial⟩)) (fun hHeld => ?_)
          clear hK K
          (try simp only [Act.put, List.setIfInBounds_toArray, List.set_cons_zero, List.set_cons_succ])
          refine wpAnyH_ready (rs := [4]) (by kernel_rfl) (by simp) ?_
          refine AllReadyH.cons (o := ⟨some 19, _, _, _, _, _⟩) rfl (fun K hK => ?_) AllReadyH.nil
          (have HOW := hide ((HO.out.out.fut (w' := w6)).alloc (.cells #[.slice A6 r.vs.length c6] 67)); have HNew := hide (SlAt.one w6 1 [.slice A6 r.vs.length c6] 67); refine step_append_sl rfl (.tmp 15) (.tmp 18) 141 rfl eiPile (base := w.heap.size) (xs := ps.map RowA.cells) rfl HOW.out (rows_fit _) (ys := [[.slice A6 r.vs.length c6]]) rfl (by simp) HNew.out (slice_fit A6 r.vs.length c6) (by rw [List.length_map, HLN.out]; show (k + 1) * 24 ≤ _; omega) (fut w (w6.alloc (.cells #[.slice A6 r.vs.length c6] 67))).size (N := k + 1) (by rw [List.length_map, HLN.out]; rfl) ?_; intro A7 c7 w7 hq1 hq2 hown7 hgr7 hbel7; have HR7 := hide (OwnR.app (r := ⟨A6, c6, r.vs.map clean⟩) (OwnR.fut (w' := w6.alloc (.cells #[.slice A6 r.vs.length c6] 67)) HO.out) (by have q := HO6.out.alloc (.cells #[.slice A6 r.vs.length c6] 67); show Own _ _ _ _ (.slice A6 (r.vs.map clean).length c6) _; rw [List.length_map]; exact q) (by show Own _ _ _ _ _ (_ ++ [[.slice A6 (r.vs.map clean).length c6]]); rw [List.length_map]; exact hown7) hgr7); have hb3 := ((HB.out.fut (w' := w6)).alloc (.cells #[.slice A6 r.vs.length c6] 67)).grown hgr7 (HOW.out.ne_ ((HB.out.fut (w' := w6)).alloc (.cells #[.slice A6 r.vs.length c6] 67)) (by decide)); have hs7 : Step w w7 := ⟨(fut w (w6.alloc (.cells #[.slice A6 r.vs.length c6] 67))).trans hbel7⟩; clear k3 lc3; have k3 := At.z1 hb3.at0; have f3 := hb3.free; have lc3 := hb3.lt; have HD3 := hide hb3; clear hown7 hgr7 hbel7 hb3)
          refine hK.out _ _ (by (try dsimp only); (exact ⟨hs7, trivial⟩)) (fun hHeld => ?_)
          clear hK K
          (try simp only [Act.put, List.setIfInBounds_toArray, List.set_cons_zero, List.set_cons_succ])
          refine wpAnyH_ready (rs := [5]) (by kernel_rfl) (by simp) ?_
          refine AllReadyH.cons (o := ⟨none, _, _, _, _, _⟩) rfl (fun K hK => ?_) AllReadyH.nil
          go_simp
          refine hK.out _ _ (by (try dsimp only); (exact ⟨⟨(fut w w7).setCell NG.le _⟩, trivial⟩)) (fun hHeld => ?_)
          clear hK K
          (try simp only [Act.put, List.setIfInBounds_toArray, List.set_cons_zero, List.set_cons_succ])
          refine wpAnyH_done (by kernel_rfl) ?_ _
          go_wp2_with fail
          go_roundw
          case rel =>
            refine ⟨k + 1, A7, c7, ps ++ [⟨A6, c6, r.vs.map clean⟩], by omega, by go_num, HD3.out.set_ 0 _, HR7.out.grownP HD3.out (grown_setCell w7 gp 0 _), ?_, ?_, ⟨(fut w w7).setCell NG.le _⟩⟩
            · show _ = _; rw [HTK.out, List.map_append, HPS.out]; rfl
            · show _ = _; rw [List.length_append, HLN.out]; rfl
          case measure => simp [intOf]; omega
        · obtain ⟨hS1, hS2⟩ := hHeld
          go_simp
          (go_at_call 115; (with_reducible refine (PC.out _).mono ?_); rintro e w6 ⟨A6, c6, rfl, ho6, hs6⟩; have HO6 := hide (ho6.more (base' := w.heap.size) (by first | exact hzX | exact (fut w X).size)); clear ho6 k3 lc3; have k_ := HB.out.fut (w' := w6); have k3 := At.z1 k_.at0; have lc3 := k_.lt; clear k_)
          refine hK.out _ _ (by (try dsimp only); (exact ⟨Step.of, trivial⟩)) (fun hHeld => ?_)
          clear hK K
          (try simp only [Act.put, List.setIfInBounds_toArray, List.set_cons_zero, List.set_cons_succ])
          refine wpAnyH_ready (rs := [0, 3]) (by kernel_rfl) (by simp) ?_
          refine AllReadyH.cons (o := ⟨some 15, _, _, _, _, _⟩) rfl (fun K hK => ?_) (AllReadyH.cons (o := ⟨some 18, _, _, _, _, _⟩) rfl (fun K hK => ?_) AllReadyH.nil)
          · go_simp
            refine hK.out _ _ (by (try dsimp only); (exact ⟨Step.of, trivial⟩)) (fun hHeld => ?_)
            clear hK K
            (try simp only [Act.put, List.setIfInBounds_toArray, List.set_cons_zero, List.set_cons_succ])
            refine wpAnyH_ready (rs := [3]) (by kernel_rfl) (by simp) ?_
            refine AllReadyH.cons (o := ⟨some 18, _, _, _, _, _⟩) rfl (fun K hK => ?_) AllReadyH.nil
            go_simp
            refine hK.out _ _ (by (try dsimp only); (exact ⟨Step.of, trivial⟩)) (fun hHeld => ?_)
            clear hK K
            (try simp only [Act.put, List.setIfInBounds_toArray, List.set_cons_zero, List.set_cons_succ])
            refine wpAnyH_ready (rs := [4]) (by kernel_rfl) (by simp) ?_
            refine AllReadyH.cons (o := ⟨some 19, _, _, _, _, _⟩) rfl (fun K hK => ?_) AllReadyH.nil
            (have HOW := hide ((HO.out.out.fut (w' := w6)).alloc (.cells #[.slice A6 r.vs.length c6] 67)); have HNew := hide (SlAt.one w6 1 [.slice A6 r.vs.length c6] 67); refine step_append_sl rfl (.tmp 15) (.tmp 18) 141 rfl eiPile (base := w.heap.size) (xs := ps.map RowA.cells) rfl HOW.out (rows_fit _) (ys := [[.slice A6 r.vs.length c6]]) rfl (by simp) HNew.out (slice_fit A6 r.vs.length c6) (by rw [List.length_map, HLN.out]; show (k + 1) * 24 ≤ _; omega) (fut w (w6.alloc (.cells #[.slice A6 r.vs.length c6] 67))).size (N := k + 1) (by rw [List.length_map, HLN.out]; rfl) ?_; intro A7 c7 w7 hq1 hq2 hown7 hgr7 hbel7; have HR7 := hide (OwnR.app (r := ⟨A6, c6, r.vs.map clean⟩) (OwnR.fut (w' := w6.alloc (.cells #[.slice A6 r.vs.length c6] 67)) HO.out) (by have q := HO6.out.alloc (.cells #[.slice A6 r.vs.length c6] 67); show Own _ _ _ _ (.slice A6 (r.vs.map clean).length c6) _; rw [List.length_map]; exact q) (by show Own _ _ _ _ _ (_ ++ [[.slice A6 (r.vs.map clean).length c6]]); rw [List.length_map]; exact hown7) hgr7); have hb3 := ((HB.out.fut (w' := w6)).alloc (.cells #[.slice A6 r.vs.length c6] 67)).grown hgr7 (HOW.out.ne_ ((HB.out.fut (w' := w6)).alloc (.cells #[.slice A6 r.vs.length c6] 67)) (by decide)); have hs7 : Step w w7 := ⟨(fut w (w6.alloc (.cells #[.slice A6 r.vs.length c6] 67))).trans hbel7⟩; clear k3 lc3; have k3 := At.z1 hb3.at0; have f3 := hb3.free; have lc3 := hb3.lt; have HD3 := hide hb3; clear hown7 hgr7 hbel7 hb3)
            refine hK.out _ _ (by (try dsimp only); (exact ⟨hs7, trivial⟩)) (fun hHeld => ?_)
            clear hK K
            (try simp only [Act.put, List.setIfInBounds_toArray, List.set_cons_zero, List.set_cons_succ])
            refine wpAnyH_ready (rs := [5]) (by kernel_rfl) (by simp) ?_
            refine AllReadyH.cons (o := ⟨none, _, _, _, _, _⟩) rfl (fun K hK => ?_) AllReadyH.nil
            go_simp
            refine hK.out _ _ (by (try dsimp only); (exact ⟨⟨(fut w w7).setCell NG.le _⟩, trivial⟩)) (fun hHeld => ?_)
            clear hK K
            (try simp only [Act.put, List.setIfInBounds_toArray, List.set_cons_zero, List.set_cons_succ])
            refine wpAnyH_done (by kernel_rfl) ?_ _
            go_wp2_with fail
            go_roundw
            case rel =>
              refine ⟨k + 1, A7, c7, ps ++ [⟨A6, c6, r.vs.map clean⟩], by omega, by go_num, HD3.out.set_ 0 _, HR7.out.grownP HD3.out (grown_setCell w7 gp 0 _), ?_, ?_, ⟨(fut w w7).setCell NG.le _⟩⟩
              · show _ = _; rw [HTK.out, List.map_append, HPS.out]; rfl
              · show _ = _; rw [List.length_append, HLN.out]; rfl
            case measure => simp [intOf]; omega
          · go_simp
            refine hK.out _ _ (by (try dsimp only); (exact ⟨Step.of, trivial⟩)) (fun hHeld => ?_)
            clear hK K
            (try simp only [Act.put, List.setIfInBounds_toArray, List.set_cons_zero, List.set_cons_succ])
            refine wpAnyH_ready (rs := [0]) (by kernel_rfl) (by simp) ?_
            refine AllReadyH.cons (o := ⟨some 15, _, _, _, _, _⟩) rfl (fun K hK => ?_) AllReadyH.nil
            go_simp
            refine hK.out _ _ (by (try dsimp only); (exact ⟨Step.of, trivial⟩)) (fun hHeld => ?_)
            clear hK K
            (try simp only [Act.put, List.setIfInBounds_toArray, List.set_cons_zero, List.set_cons_succ])
            refine wpAnyH_ready (rs := [4]) (by kernel_rfl) (by simp) ?_
            refine AllReadyH.cons (o := ⟨some 19, _, _, _, _, _⟩) rfl (fun K hK => ?_) AllReadyH.nil
            (have HOW := hide ((HO.out.out.fut (w' := w6)).alloc (.cells #[.slice A6 r.vs.length c6] 67)); have HNew := hide (SlAt.one w6 1 [.slice A6 r.vs.length c6] 67); refine step_append_sl rfl (.tmp 15) (.tmp 18) 141 rfl eiPile (base := w.heap.size) (xs := ps.map RowA.cells) rfl HOW.out (rows_fit _) (ys := [[.slice A6 r.vs.length c6]]) rfl (by simp) HNew.out (slice_fit A6 r.vs.length c6) (by rw [List.length_map, HLN.out]; show (k + 1) * 24 ≤ _; omega) (fut w (w6.alloc (.cells #[.slice A6 r.vs.length c6] 67))).size (N := k + 1) (by rw [List.length_map, HLN.out]; rfl) ?_; intro A7 c7 w7 hq1 hq2 hown7 hgr7 hbel7; have HR7 := hide (OwnR.app (r := ⟨A6, c6, r.vs.map clean⟩) (OwnR.fut (w' := w6.alloc (.cells #[.slice A6 r.vs.length c6] 67)) HO.out) (by have q := HO6.out.alloc (.cells #[.slice A6 r.vs.length c6] 67); show Own _ _ _ _ (.slice A6 (r.vs.map clean).length c6) _; rw [List.length_map]; exact q) (by show Own _ _ _ _ _ (_ ++ [[.slice A6 (r.vs.map clean).length c6]]); rw [List.length_map]; exact hown7) hgr7); have hb3 := ((HB.out.fut (w' := w6)).alloc (.cells #[.slice A6 r.vs.length c6] 67)).grown hgr7 (HOW.out.ne_ ((HB.out.fut (w' := w6)).alloc (.cells #[.slice A6 r.vs.length c6] 67)) (by decide)); have hs7 : Step w w7 := ⟨(fut w (w6.alloc (.cells #[.slice A6 r.vs.length c6] 67))).trans hbel7⟩; clear k3 lc3; have k3 := At.z1 hb3.at0; have f3 := hb3.free; have lc3 := hb3.lt; have HD3 := hide hb3; clear hown7 hgr7 hbel7 hb3)
            refine hK.out _ _ (by (try dsimp only); (exact ⟨hs7, trivial⟩)) (fun hHeld => ?_)
            clear hK K
            (try simp only [Act.put, List.setIfInBounds_toArray, List.set_cons_zero, List.set_cons_succ])
            refine wpAnyH_ready (rs := [5]) (by kernel_rfl) (by simp) ?_
            refine AllReadyH.cons (o := ⟨none, _, _, _, _, _⟩) rfl (fun K hK => ?_) AllReadyH.nil
            go_simp
            refine hK.out _ _ (by (try dsimp only); (exact ⟨⟨(fut w w7).setCell NG.le _⟩, trivial⟩)) (fun hHeld => ?_)
            clear hK K
            (try simp only [Act.put, List.setIfInBounds_toArray, List.set_cons_zero, List.set_cons_succ])
            refine wpAnyH_done (by kernel_rfl) ?_ _
            go_wp2_with fail
            go_roundw
            case rel =>
              refine ⟨k + 1, A7, c7, ps ++ [⟨A6, c6, r.vs.map clean⟩], by omega, by go_num, HD3.out.set_ 0 _, HR7.out.grownP HD3.out (grown_setCell w7 gp 0 _), ?_, ?_, ⟨(fut w w7).setCell NG.le _⟩⟩
              · show _ = _; rw [HTK.out, List.map_append, HPS.out]; rfl
              · show _ = _; rw [List.length_append, HLN.out]; rfl
            case measure => simp [intOf]; omega
    · obtain rfl : k = rs.length := by omega
      have hps : ps.map RowA.vs = rs.map fun r => cleanL r.vs := by have h_ := HPS.out; rw [List.take_length] at h_; exact h_
      have HPM := hide hps
      have hfine : ∀ r ∈ ps, FineR r := by
        intro r hr_
        have h1 : r.vs ∈ rs.map fun r => cleanL r.vs := by rw [← hps]; exact List.mem_map.2 ⟨r, hr_, rfl⟩
        obtain ⟨r', hr', e⟩ := List.mem_map.1 h1
        have q := hr.rows r' hr'
        refine ⟨by rw [← e]; simp only [cleanL, List.length_map]; exact q.hcapm, fun v hv => ?_⟩
        rw [← e] at hv
        obtain ⟨u, hu, rfl⟩ := List.mem_map.1 hv
        exact clean_fine (q.strs u hu)
      have HFN := hide hfine
      obtain ⟨N, hN⟩ : ∃ N, rs.length = N := ⟨_, rfl⟩
      have HNR := hide hN
      rw [hN] at HLN HO HB0 hrm
      rw [hN]
      have PIN := hide (pinit_any (w0 := w) gp N c' A' ps wo HLN.out hrm HO.out HB0.out hfine)
      clear hps hfine
      go_wp2_with (go_at_call 116; (with_reducible refine PIN.out.mono ?_); rintro e w1 ⟨rfl, l0, hl1, hp1, hh1, ho1, hb1, _, hs1⟩; have HL1 := hide hl1; have HP1 := hide hp1; have HH1 := hide hh1; have HO1 := hide ho1; have HB1 := hide hb1; clear hl1 hp1 hh1 ho1 hb1)
      obtain ⟨B2, hB2⟩ : ∃ B2, w1.heap.size = B2 := ⟨_, rfl⟩
      have hAB : ∀ q, (Value.slice A' N c').ownBlock = some q → q < B2 := fun q hq => by rw [← hB2]; exact (HO1.out.out.lt q hq).2
      have hgB : gp < B2 := by rw [← hB2]; exact HB1.out.lt
      have hwB : w.heap.size ≤ B2 := by rw [← hB2]; exact (fut w w1).size
      have HAB := hide hAB
      clear hAB
      go_loopw [6, 7, 8] (fun out _ _ wr => ∃ (m j : Nat) (ls os : List RowA) (Ao : Option Addr) (co : Nat), m + j = N ∧ out = .slice Ao j co ∧ Hid (ls.length = m) ∧ Hid (os.length = j) ∧ Taken ltA l0 os ls ∧ HeapFrom ltA ls m 0 ∧ OwnR wr w.heap.size A' m c' ls ∧ Blk wr gp 141 [.slice A' m c'] ∧ Own wr B2 67 1 (.slice Ao j co) (os.map RowA.cells) ∧ (∀ r ∈ os, Own wr w.heap.size 36 4 (.slice r.A r.vs.length r.cap) (r.vs.map Val.cells)) ∧ B2 ≤ wr.heap.size ∧ Step w wr) (fun out _ _ _ => N - lenV out)
      case atStart => exact ⟨N, 0, l0, [], none, 0, by omega, rfl, HL1.out, rfl, taken_nil, HH1.out, HO1.out, HB1.out, Own.nil_ _ _ _ _, fun r h => by simp at h, by omega, hs1⟩
      case round =>
        obtain ⟨m, j, ls, os, Ao, co, hmj, rfl, HLL, HOL, htk, hhf, how, hbp, hout, hrows, hsz, hst2⟩ := hrel
        have HTK := hide htk; have HHF := hide hhf; have HOW := hide how; have HBP := hide hbp; have HQ := hide hout; have HRW := hide hrows
        clear htk hhf how hbp hout hrows HO1 HB1
        obtain ⟨wi, hwi⟩ : ∃ x : World, x = wr := ⟨_, rfl⟩
        rw [← hwi] at HOW HBP HQ HRW hst2 hsz
        rw [← hwi]
        clear hwi
        have hzi := hst2.size
        have p0 := At.z1 HBP.out.at0
        have lp0 := HBP.out.lt
        rcases Nat.eq_zero_or_pos m with e | e
        · subst e
          have hjN : j = N := by omega
          go_wp2_with (go_at_call 117; refine (plen_any A' 0 c' _).mono ?_; rintro e w_ ⟨rfl, rfl⟩)
          go_ret
          have hls : ls = [] := List.eq_nil_of_length_eq_zero HLL.out
          have hpm : os.Perm l0 := by have h_ := HTK.out.perm; rw [hls, List.append_nil] at h_; exact h_
          have hjr : rs.length = j := by rw [HNR.out, hjN]
          exact ⟨Ao, co, os, by rw [HNR.out]; rfl, by rw [HOL.out, hjr], asc_map HTK.out.asc, by rw [← HPM.out]; exact (hpm.trans HP1.out).map RowA.vs, ⟨by rw [hjr]; exact HQ.out.more hwB, HRW.out⟩, Step.of⟩
        · obtain ⟨n, rfl⟩ : ∃ n, m = n + 1 := ⟨m - 1, by omega⟩
          have hfl : ∀ r ∈ ls, FineR r := fun r hr_ => HFN.out r (HP1.out.mem_iff.1 (HTK.out.perm.mem_iff.1 (List.mem_append.2 (.inr hr_))))
          have PHP := hide (phpop_any (w0 := w) gp n c' A' ls wi HLL.out (by omega) NG.le HOW.out HBP.out HHF.out hfl)
          clear hfl
          have hta := run_assert
          go_upto_region 11 with (first
            | (go_at_call 117; refine (plen_any A' (n + 1) c' _).mono ?_; rintro e w_ ⟨rfl, rfl⟩)
            | (go_at_call 118; (with_reducible refine PHP.out.mono ?_); rintro e w5 ⟨x, l5, rfl, hl5, hp5, hm5, hh5, ho5, hx5, hb5, hon5, hs5⟩; have HL5 := hide hl5; have HP5 := hide hp5; have HM5 := hide hm5; have HH5 := hide hh5; have HO5 := hide ho5; have HX5 := hide hx5; have HB5 := hide hb5; have HON5 := hide hon5; clear hl5 hp5 hm5 hh5 ho5 hx5 hb5 hon5; unfold RowA.sl))
          have hz5 := HON5.out.size
          have HQ5 := hide (HQ.out.only HON5.out (fun q hq => by
            have h1 := (HQ.out.lt q hq).1
            refine ⟨by omega, fun e => ?_⟩
            have h2 := HAB.out q (by rw [ownBlock_any (n' := n + 1) (c' := c'), ← e])
            omega))
          have HRW5 : Hid (∀ r ∈ os, Own w5 w.heap.size 36 4 (.slice r.A r.vs.length r.cap) (r.vs.map Val.cells)) := fun r hr_ => (HRW.out r hr_).only HON5.out (fun q hq => by
            refine ⟨fun e => (HRW.out r hr_).ne_ HBP.out (by decide) (by rw [hq, e]), fun e => own_ne (HRW.out r hr_) HOW.out.out (by decide) q hq e.symm⟩)
          obtain ⟨X2, hX2⟩ : ∃ X2, X2 = (w5.alloc (.cells #[.slice x.A x.vs.length x.cap] 67)).alloc (.cells #[.slice x.A x.vs.length x.cap] 67) := ⟨_, rfl⟩
          have hX2s : B2 ≤ X2.heap.size := by rw [hX2]; simp; omega
          have SX2 : Step w5 X2 := by rw [hX2]; exact Step.of
          have HNew : Hid (SlAt X2 X2.heap.size 1 (some ⟨w5.heap.size + 1, 0, none⟩) [[.slice x.A x.vs.length x.cap]]) := by
            have h_ := SlAt.one (w5.alloc (.cells #[.slice x.A x.vs.length x.cap] 67)) 1 [.slice x.A x.vs.length x.cap] 67
            show SlAt _ _ _ _ _
            rw [hX2]
            simpa using h_
          have HX2 := hide hX2
          clear hX2
          go_wp2_with (at_builtin; rw [← HX2.out]; go_loud (refine wpList_append_sl rfl (.tmp 32) (.tmp 34) 28 rfl eiRow (base := B2) (xs := os.map RowA.cells) rfl (HQ5.out.fut (w' := X2)) (rows_fit _) (ys := [[.slice x.A x.vs.length x.cap]]) rfl (by simp) HNew.out (slice_fit x.A x.vs.length x.cap) (by rw [List.length_map, HOL.out]; show (j + 1) * 24 ≤ _; omega) hX2s (N := j + 1) (by rw [List.length_map, HOL.out]; rfl) ?_; intro A8 c8 w8 hq1 hq2 hown8 hgr8 hbel8; have H8 := hide hown8; have HG8 := hide hgr8; have HB8 := hide hbel8; clear hown8 hgr8 hbel8))
          have hs8 : Step w w8 := ⟨(fut w X2).trans (HB8.out.mono hwB)⟩
          have HQX := hide (HQ5.out.fut (w' := X2))
          go_roundw
          case rel =>
            refine ⟨n, j + 1, l5, os ++ [x], A8, c8, by omega, rfl, HL5.out, by show _ = _; rw [List.length_append, HOL.out]; rfl, HTK.out.pop HP5.out HM5.out, HH5.out, (OwnR.fut (w' := X2) HO5.out).grownQ HQX.out (fun q hq => HAB.out q (by rw [ownBlock_any (n' := n) (c' := c')]; exact hq)) HG8.out, (HB5.out.fut (w' := X2)).grown HG8.out (HQX.out.ne_ (HB5.out.fut (w' := X2)) (by decide)), by rw [List.map_append]; exact H8.out, fun r hr_ => ?_, Nat.le_trans hX2s HB8.out.size, hs8⟩
            rcases List.mem_append.1 hr_ with h | h
            · have q := (HRW5.out r h).fut (w' := X2)
              exact q.grown_other HG8.out (own_ne q HQX.out (by decide))
            · simp at h
              subst h
              have q := HX5.out.fut (w' := X2)
              exact q.grown_other HG8.out (own_ne q HQX.out (by decide))
          case measure => simp [lenV]; omega
end Go.Proofs.YtnphokhehacfnaaGreatDoor

