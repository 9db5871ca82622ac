/-
  Texts put together: Dc.
-/
import Derived.Test.YtnphokhehacfnaaGreatDoorPz03
import Derived.Test.YtnphokhehacfnaaGreatDoorPz11
namespace Go.Proofs.YtnphokhehacfnaaGreatDoor
open Go.RowKit

set_option maxRecDepth 100000 in
set_option maxHeartbeats 8000000 in
theorem lesser_any (f : FuncId) (p : Val → Val → Bool) (a b : Val) (w : World) (hcall : ∀ args w, (callFunc f args).run Tryz.prog w = .ok (.enter f args) w)
    (hf : ∀ (x y : Val) (w' : World), Calls Tryz.prog f #[x.val, y.val] w' fun e w'' => e = .returned (.bool (p x y)) ∧ Step w' w'') :
    Calls Tryz.prog 182 #[.agg #[.int .i64 a.kind, .int .i64 a.i, .bool a.b, .string a.s], .agg #[.int .i64 b.kind, .int .i64 b.i, .bool b.b, .string b.s], .func (.func f) #[] #[]] w fun e w' => e = .returned (selV p a b).ag ∧ Step w w' := by
  have PA := hide (plain_ag a)
  have PB := hide (plain_ag b)
  have LF : Hid (∀ w', Calls Tryz.prog f #[.agg #[.int .i64 (kindV b), .int .i64 (clean b).i, .bool (clean b).b, .string (clean b).s], .agg #[.int .i64 (kindV a), .int .i64 (clean a).i, .bool (clean a).b, .string (clean a).s]] w' fun e w'' => e = .returned (.bool (p (clean b) (clean a))) ∧ Step w' w'') := fun w' => by
    have h := hf (clean b) (clean a) w'
    unfold Val.val at h
    rw [clean_kind, clean_kind] at h
    exact h
  clear hf
  obtain ⟨W, hW⟩ : ∃ W, W = ((w.alloc (.cells #[.int .i64 a.kind, .int .i64 a.i, .bool a.b, .string a.s] 36)).alloc (.cells #[.int .i64 b.kind, .int .i64 b.i, .bool b.b, .string b.s] 36)).alloc (.cells #[.int .i64 0, .int .i64 0, .bool false, .string ⟨#[]⟩] 36) := ⟨_, rfl⟩
  have SW : Step w W := by rw [hW]; exact Step.of
  have HA : Hid (Blk W w.heap.size 36 [.int .i64 a.kind, .int .i64 a.i, .bool a.b, .string a.s]) := by rw [hW]; exact ((Blk.new w [.int .i64 a.kind, .int .i64 a.i, .bool a.b, .string a.s] 36).alloc _).alloc _
  have HB : Hid (Blk W (w.heap.size + 1) 36 [.int .i64 b.kind, .int .i64 b.i, .bool b.b, .string b.s]) := by rw [hW]; exact (Blk.new_at (by simp) [.int .i64 b.kind, .int .i64 b.i, .bool b.b, .string b.s] 36).alloc _
  have HC : Hid (Blk W (w.heap.size + 2) 36 [.int .i64 0, .int .i64 0, .bool false, .string ⟨#[]⟩]) := by rw [hW]; exact Blk.new_at (by simp) [.int .i64 0, .int .i64 0, .bool false, .string ⟨#[]⟩] 36
  have HW := hide hW
  clear hW
  obtain ⟨R, hR⟩ : ∃ R, selV p a b = R := ⟨_, rfl⟩
  have HSR : Hid (selV p a b = R) := hR
  rw [hR]
  clear hR
  go_enter Tryz.func182, Tryz.ntmps182
  go_upto_region 1 with fail
  rw [← HW.out]
  obtain ⟨a0, a1, a2, a3⟩ := At.z4 (HA.out.fut (w' := W)).at0
  have la := (HA.out.fut (w' := W)).lt
  have fa := (HA.out.fut (w' := W)).free
  obtain ⟨b0, b1, b2, b3⟩ := At.z4 (HB.out.fut (w' := W)).at0
  have lb := (HB.out.fut (w' := W)).lt
  have fb := (HB.out.fut (w' := W)).free
  refine wp_region_held_drew (S := (fun w' => Step w w' ∧ True)) (by kernel_rfl) (by (try dsimp only); (exact ⟨Step.of, trivial⟩)) (fun hHeld => ?_)
  refine wpAnyH_ready (rs := [0, 2]) (by kernel_rfl) (by simp) ?_
  refine AllReadyH.cons (o := ⟨some 7, _, _, _, _, _⟩) rfl (fun K hK => ?_) (AllReadyH.cons (o := ⟨some 9, _, _, _, _, _⟩) rfl (fun K hK => ?_) AllReadyH.nil)
  · go_simp
    refine hK.out _ _ (by (try dsimp only); (exact ⟨Step.of, trivial⟩)) (fun hHeld => ?_)
    clear hK K
    (try simp only [Act.put, List.setIfInBounds_toArray, List.set_cons_zero, List.set_cons_succ])
    refine wpAnyH_ready (rs := [1, 2]) (by kernel_rfl) (by simp) ?_
    refine AllReadyH.cons (o := ⟨some 8, _, _, _, _, _⟩) rfl (fun K hK => ?_) (AllReadyH.cons (o := ⟨some 9, _, _, _, _, _⟩) rfl (fun K hK => ?_) AllReadyH.nil)
    · obtain ⟨hS1, hS2⟩ := hHeld
      go_simp
      (go_at_call 109; (with_reducible refine (PA.out _).mono ?_); rintro e w5 ⟨rfl, hs5⟩; clear a0 a1 a2 a3 la fa b0 b1 b2 b3 lb fb; obtain ⟨a0, a1, a2, a3⟩ := At.z4 (HA.out.fut (w' := w5)).at0; have la := (HA.out.fut (w' := w5)).lt; have fa := (HA.out.fut (w' := w5)).free; obtain ⟨b0, b1, b2, b3⟩ := At.z4 (HB.out.fut (w' := w5)).at0; have lb := (HB.out.fut (w' := w5)).lt; have fb := (HB.out.fut (w' := w5)).free)
      refine hK.out _ _ (by (try dsimp only); (exact ⟨Step.of, trivial⟩)) (fun hHeld => ?_)
      clear hK K
      (try simp only [Act.put, List.setIfInBounds_toArray, List.set_cons_zero, List.set_cons_succ])
      refine wpAnyH_ready (rs := [2]) (by kernel_rfl) (by simp) ?_
      refine AllReadyH.cons (o := ⟨some 9, _, _, _, _, _⟩) rfl (fun K hK => ?_) AllReadyH.nil
      go_simp
      refine hK.out _ _ (by (try dsimp only); (exact ⟨Step.of, trivial⟩)) (fun hHeld => ?_)
      clear hK K
      (try simp only [Act.put, List.setIfInBounds_toArray, List.set_cons_zero, List.set_cons_succ])
      refine wpAnyH_ready (rs := [3]) (by kernel_rfl) (by simp) ?_
      refine AllReadyH.cons (o := ⟨some 10, _, _, _, _, _⟩) rfl (fun K hK => ?_) AllReadyH.nil
      obtain ⟨hS1, hS2⟩ := hHeld
      go_simp
      (go_at_call 109; (with_reducible refine (PB.out _).mono ?_); rintro e w6 ⟨rfl, hs6⟩; clear a0 a1 a2 a3 la fa b0 b1 b2 b3 lb fb; obtain ⟨a0, a1, a2, a3⟩ := At.z4 (HA.out.fut (w' := w6)).at0; have la := (HA.out.fut (w' := w6)).lt; have fa := (HA.out.fut (w' := w6)).free; obtain ⟨b0, b1, b2, b3⟩ := At.z4 (HB.out.fut (w' := w6)).at0; have lb := (HB.out.fut (w' := w6)).lt; have fb := (HB.out.fut (w' := w6)).free)
      refine hK.out _ _ (by (try dsimp only); (exact ⟨Step.of, trivial⟩)) (fun hHeld => ?_)
      clear hK K
      (try simp only [Act.put, List.setIfInBounds_toArray, List.set_cons_zero, List.set_cons_succ])
      refine wpAnyH_ready (rs := [4]) (by kernel_rfl) (by simp) ?_
      refine AllReadyH.cons (o := ⟨none, _, _, _, _, _⟩) rfl (fun K hK => ?_) AllReadyH.nil
      go_simp
      refine hK.out _ _ (by (try dsimp only); (exact ⟨Step.of, trivial⟩)) (fun hHeld => ?_)
      clear hK K
      (try simp only [Act.put, List.setIfInBounds_toArray, List.set_cons_zero, List.set_cons_succ])
      refine wpAnyH_ready (rs := [5]) (by kernel_rfl) (by simp) ?_
      refine AllReadyH.cons (o := ⟨none, _, _, _, _, _⟩) rfl (fun K hK => ?_) AllReadyH.nil
      go_simp
      refine hK.out _ _ (by (try dsimp only); (exact ⟨Step.of, trivial⟩)) (fun hHeld => ?_)
      clear hK K
      (try simp only [Act.put, List.setIfInBounds_toArray, List.set_cons_zero, List.set_cons_succ])
      refine wpAnyH_done (by kernel_rfl) ?_ _
      have HA6 := hide (((HA.out.fut (w' := w6)).put4 (.int .i64 (kindV a)) (.int .i64 (clean a).i) (.bool (clean a).b) (.string (clean a).s)).far4 (r := w.heap.size + 1) (by omega) (.int .i64 (kindV b)) (.int .i64 (clean b).i) (.bool (clean b).b) (.string (clean b).s))
      have HB6 := hide (((HB.out.fut (w' := w6)).far4 (r := w.heap.size) (by omega) (.int .i64 (kindV a)) (.int .i64 (clean a).i) (.bool (clean a).b) (.string (clean a).s)).put4 (.int .i64 (kindV b)) (.int .i64 (clean b).i) (.bool (clean b).b) (.string (clean b).s))
      have HC6 := hide (((HC.out.fut (w' := w6)).far4 (r := w.heap.size) (by omega) (.int .i64 (kindV a)) (.int .i64 (clean a).i) (.bool (clean a).b) (.string (clean a).s)).far4 (r := w.heap.size + 1) (by omega) (.int .i64 (kindV b)) (.int .i64 (clean b).i) (.bool (clean b).b) (.string (clean b).s))
      have hb6 : Below w.heap.size w _ := below4 (below4 (fut w w6) (Nat.le_refl _) (.int .i64 (kindV a)) (.int .i64 (clean a).i) (.bool (clean a).b) (.string (clean a).s)) (Nat.le_add_right w.heap.size 1) (.int .i64 (kindV b)) (.int .i64 (clean b).i) (.bool (clean b).b) (.string (clean b).s)
      obtain ⟨X, hX⟩ : ∃ x : World, x = (((((((w6.setCell ⟨w.heap.size, 0, none⟩ (.int .i64 (kindV a))).setCell ⟨w.heap.size, 1, none⟩ (.int .i64 (clean a).i)).setCell ⟨w.heap.size, 2, none⟩ (.bool (clean a).b)).setCell ⟨w.heap.size, 3, none⟩ (.string (clean a).s)).setCell ⟨w.heap.size + 1, 0, none⟩ (.int .i64 (kindV b))).setCell ⟨w.heap.size + 1, 1, none⟩ (.int .i64 (clean b).i)).setCell ⟨w.heap.size + 1, 2, none⟩ (.bool (clean b).b)).setCell ⟨w.heap.size + 1, 3, none⟩ (.string (clean b).s) := ⟨_, rfl⟩
      rw [← hX] at HA6 HB6 HC6 hb6
      rw [← hX]
      clear hX a0 a1 a2 a3 la fa b0 b1 b2 b3 lb fb
      have hsX : Step w X := ⟨hb6⟩
      obtain ⟨a0, a1, a2, a3⟩ := At.z4 HA6.out.at0
      have la := HA6.out.lt
      obtain ⟨b0, b1, b2, b3⟩ := At.z4 HB6.out.at0
      have lb := HB6.out.lt
      obtain ⟨c0, c1, c2, c3⟩ := At.z4 HC6.out.at0
      have lc := HC6.out.lt
      have fc := HC6.out.free
      by_cases h0 : kindV a = 0
      · have g0 : (kindV a == 0) = true := by rw [h0]; rfl
        have HR : Hid (R.ag = .agg #[.int .i64 (kindV b), .int .i64 (clean b).i, .bool (clean b).b, .string (clean b).s]) := by show _ = _; rw [← HSR.out, selV, if_pos (Or.inl h0), clean_agD]
        clear h0
        go_wp2_with fail
        refine bodyPost_ret (v := .agg #[.int .i64 (kindV b), .int .i64 (clean b).i, .bool (clean b).b, .string (clean b).s]) (by simp [results, Tryz.results182, go_sem, c0, c1, c2, c3]) rfl ?_
        exact ⟨by rw [HR.out], Step.of⟩
      · have g0 : (kindV a == 0) = false := beq_eq_false_iff_ne.2 h0
        by_cases h1 : kindV b = 0
        · have g1 : (kindV b != 0) = false := by rw [h1]; rfl
          have HR : Hid (R.ag = .agg #[.int .i64 (kindV a), .int .i64 (clean a).i, .bool (clean a).b, .string (clean a).s]) := by show _ = _; rw [← HSR.out, selV, if_neg (by rintro (h | h); exact h0 h; exact h.1 h1), clean_agD]
          clear h0 h1
          go_wp2_with fail
          refine bodyPost_ret (v := .agg #[.int .i64 (kindV a), .int .i64 (clean a).i, .bool (clean a).b, .string (clean a).s]) (by simp [results, Tryz.results182, go_sem, c0, c1, c2, c3]) rfl ?_
          exact ⟨by rw [HR.out], Step.of⟩
        · have g1 : (kindV b != 0) = true := bne_iff_ne.2 h1
          cases hp : p (clean b) (clean a) with
          | true =>
            have HR : Hid (R.ag = .agg #[.int .i64 (kindV b), .int .i64 (clean b).i, .bool (clean b).b, .string (clean b).s]) := by show _ = _; rw [← HSR.out, selV, if_pos (Or.inr ⟨h1, hp⟩), clean_agD]
            rw [hp] at LF
            clear h0 h1 hp
            go_wp2_with (refine (LF.out _).mono ?_; rintro e w7 ⟨rfl, hs7⟩; clear a0 a1 a2 a3 la b0 b1 b2 b3 lb c0 c1 c2 c3 lc fc; obtain ⟨a0, a1, a2, a3⟩ := At.z4 (HA6.out.fut (w' := w7)).at0; have la := (HA6.out.fut (w' := w7)).lt; obtain ⟨b0, b1, b2, b3⟩ := At.z4 (HB6.out.fut (w' := w7)).at0; have lb := (HB6.out.fut (w' := w7)).lt; obtain ⟨c0, c1, c2, c3⟩ := At.z4 (HC6.out.fut (w' := w7)).at0; have lc := (HC6.out.fut (w' := w7)).lt; have fc := (HC6.out.fut (w' := w7)).free)
            refine bodyPost_ret (v := .agg #[.int .i64 (kindV b), .int .i64 (clean b).i, .bool (clean b).b, .string (clean b).s]) (by simp [results, Tryz.results182, go_sem, c0, c1, c2, c3]) rfl ?_
            exact ⟨by rw [HR.out], Step.of⟩
          | false =>
            have HR : Hid (R.ag = .agg #[.int .i64 (kindV a), .int .i64 (clean a).i, .bool (clean a).b, .string (clean a).s]) := by show _ = _; rw [← HSR.out, selV, if_neg (by rintro (h | h); exact h0 h; rw [hp] at h; cases h.2), clean_agD]
            rw [hp] at LF
            clear h0 h1 hp
            go_wp2_with (refine (LF.out _).mono ?_; rintro e w7 ⟨rfl, hs7⟩; clear a0 a1 a2 a3 la b0 b1 b2 b3 lb c0 c1 c2 c3 lc fc; obtain ⟨a0, a1, a2, a3⟩ := At.z4 (HA6.out.fut (w' := w7)).at0; have la := (HA6.out.fut (w' := w7)).lt; obtain ⟨b0, b1, b2, b3⟩ := At.z4 (HB6.out.fut (w' := w7)).at0; have lb := (HB6.out.fut (w' := w7)).lt; obtain ⟨c0, c1, c2, c3⟩ := At.z4 (HC6.out.fut (w' := w7)).at0; have lc := (HC6.out.fut (w' := w7)).lt; have fc := (HC6.out.fut (w' := w7)).free)
            refine bodyPost_ret (v := .agg #[.int .i64 (kindV a), .int .i64 (clean a).i, .bool (clean a).b, .string (clean a).s]) (by simp [results, Tryz.results182, go_sem, c0, c1, c2, c3]) rfl ?_
            exact ⟨by rw [HR.out], Step.of⟩
    · go_simp
      refine hK.out _ _ (by (try dsimp only); (exact ⟨Step.of, trivial⟩)) (fun hHeld => ?_)
      clear hK K
      (try simp only [Act.put, List.setIfInBounds_toArray, List.set_cons_zero, List.set_cons_succ])
      refine wpAnyH_ready (rs := [1]) (by kernel_rfl) (by simp) ?_
      refine AllReadyH.cons (o := ⟨some 8, _, _, _, _, _⟩) rfl (fun K hK => ?_) AllReadyH.nil
      obtain ⟨hS1, hS2⟩ := hHeld
      go_simp
      (go_at_call 109; (with_reducible refine (PA.out _).mono ?_); rintro e w5 ⟨rfl, hs5⟩; clear a0 a1 a2 a3 la fa b0 b1 b2 b3 lb fb; obtain ⟨a0, a1, a2, a3⟩ := At.z4 (HA.out.fut (w' := w5)).at0; have la := (HA.out.fut (w' := w5)).lt; have fa := (HA.out.fut (w' := w5)).free; obtain ⟨b0, b1, b2, b3⟩ := At.z4 (HB.out.fut (w' := w5)).at0; have lb := (HB.out.fut (w' := w5)).lt; have fb := (HB.out.fut (w' := w5)).free)
      refine hK.out _ _ (by (try dsimp only); (exact ⟨Step.of, trivial⟩)) (fun hHeld => ?_)
      clear hK K
      (try simp only [Act.put, List.setIfInBounds_toArray, List.set_cons_zero, List.set_cons_succ])
      refine wpAnyH_ready (rs := [3]) (by kernel_rfl) (by simp) ?_
      refine AllReadyH.cons (o := ⟨some 10, _, _, _, _, _⟩) rfl (fun K hK => ?_) AllReadyH.nil
      obtain ⟨hS1, hS2⟩ := hHeld
      go_simp
      (go_at_call 109; (with_reducible refine (PB.out _).mono ?_); rintro e w6 ⟨rfl, hs6⟩; clear a0 a1 a2 a3 la fa b0 b1 b2 b3 lb fb; obtain ⟨a0, a1, a2, a3⟩ := At.z4 (HA.out.fut (w' := w6)).at0; have la := (HA.out.fut (w' := w6)).lt; have fa := (HA.out.fut (w' := w6)).free; obtain ⟨b0, b1, b2, b3⟩ := At.z4 (HB.out.fut (w' := w6)).at0; have lb := (HB.out.fut (w' := w6)).lt; have fb := (HB.out.fut (w' := w6)).free)
      refine hK.out _ _ (by (try dsimp only); (exact ⟨Step.of, trivial⟩)) (fun hHeld => ?_)
      clear hK K
      (try simp only [Act.put, List.setIfInBounds_toArray, List.set_cons_zero, List.set_cons_succ])
      refine wpAnyH_ready (rs := [4]) (by kernel_rfl) (by simp) ?_
      refine AllReadyH.cons (o := ⟨none, _, _, _, _, _⟩) rfl (fun K hK => ?_) AllReadyH.nil
      go_simp
      refine hK.out _ _ (by (try dsimp only); (exact ⟨Step.of, trivial⟩)) (fun hHeld => ?_)
      clear hK K
      (try simp only [Act.put, List.setIfInBounds_toArray, List.set_cons_zero, List.set_cons_succ])
      refine wpAnyH_ready (rs := [5]) (by kernel_rfl) (by simp) ?_
      refine AllReadyH.cons (o := ⟨none, _, _, _, _, _⟩) rfl (fun K hK => ?_) AllReadyH.nil
      go_simp
      refine hK.out _ _ (by (try dsimp only); (exact ⟨Step.of, trivial⟩)) (fun hHeld => ?_)
      clear hK K
      (try simp only [Act.put, List.setIfInBounds_toArray, List.set_cons_zero, List.set_cons_succ])
      refine wpAnyH_done (by kernel_rfl) ?_ _
      have HA6 := hide (((HA.out.fut (w' := w6)).put4 (.int .i64 (kindV a)) (.int .i64 (clean a).i) (.bool (clean a).b) (.string (clean a).s)).far4 (r := w.heap.size + 1) (by omega) (.int .i64 (kindV b)) (.int .i64 (clean b).i) (.bool (clean b).b) (.string (clean b).s))
      have HB6 := hide (((HB.out.fut (w' := w6)).far4 (r := w.heap.size) (by omega) (.int .i64 (kindV a)) (.int .i64 (clean a).i) (.bool (clean a).b) (.string (clean a).s)).put4 (.int .i64 (kindV b)) (.int .i64 (clean b).i) (.bool (clean b).b) (.string (clean b).s))
      have HC6 := hide (((HC.out.fut (w' := w6)).far4 (r := w.heap.size) (by omega) (.int .i64 (kindV a)) (.int .i64 (clean a).i) (.bool (clean a).b) (.string (clean a).s)).far4 (r := w.heap.size + 1) (by omega) (.int .i64 (kindV b)) (.int .i64 (clean b).i) (.bool (clean b).b) (.string (clean b).s))
      have hb6 : Below w.heap.size w _ := below4 (below4 (fut w w6) (Nat.le_refl _) (.int .i64 (kindV a)) (.int .i64 (clean a).i) (.bool (clean a).b) (.string (clean a).s)) (Nat.le_add_right w.heap.size 1) (.int .i64 (kindV b)) (.int .i64 (clean b).i) (.bool (clean b).b) (.string (clean b).s)
      obtain ⟨X, hX⟩ : ∃ x : World, x = (((((((w6.setCell ⟨w.heap.size, 0, none⟩ (.int .i64 (kindV a))).setCell ⟨w.heap.size, 1, none⟩ (.int .i64 (clean a).i)).setCell ⟨w.heap.size, 2, none⟩ (.bool (clean a).b)).setCell ⟨w.heap.size, 3, none⟩ (.string (clean a).s)).setCell ⟨w.heap.size + 1, 0, none⟩ (.int .i64 (kindV b))).setCell ⟨w.heap.size + 1, 1, none⟩ (.int .i64 (clean b).i)).setCell ⟨w.heap.size + 1, 2, none⟩ (.bool (clean b).b)).setCell ⟨w.heap.size + 1, 3, none⟩ (.string (clean b).s) := ⟨_, rfl⟩
      rw [← hX] at HA6 HB6 HC6 hb6
      rw [← hX]
      clear hX a0 a1 a2 a3 la fa b0 b1 b2 b3 lb fb
      have hsX : Step w X := ⟨hb6⟩
      obtain ⟨a0, a1, a2, a3⟩ := At.z4 HA6.out.at0
      have la := HA6.out.lt
      obtain ⟨b0, b1, b2, b3⟩ := At.z4 HB6.out.at0
      have lb := HB6.out.lt
      obtain ⟨c0, c1, c2, c3⟩ := At.z4 HC6.out.at0
      have lc := HC6.out.lt
      have fc := HC6.out.free
      by_cases h0 : kindV a = 0
      · have g0 : (kindV a == 0) = true := by rw [h0]; rfl
        have HR : Hid (R.ag = .agg #[.int .i64 (kindV b), .int .i64 (clean b).i, .bool (clean b).b, .string (clean b).s]) := by show _ = _; rw [← HSR.out, selV, if_pos (Or.inl h0), clean_agD]
        clear h0
        go_wp2_with fail
        refine bodyPost_ret (v := .agg #[.int .i64 (kindV b), .int .i64 (clean b).i, .bool (clean b).b, .string (clean b).s]) (by simp [results, Tryz.results182, go_sem, c0, c1, c2, c3]) rfl ?_
        exact ⟨by rw [HR.out], Step.of⟩
      · have g0 : (kindV a == 0) = false := beq_eq_false_iff_ne.2 h0
        by_cases h1 : kindV b = 0
        · have g1 : (kindV b != 0) = false := by rw [h1]; rfl
          have HR : Hid (R.ag = .agg #[.int .i64 (kindV a), .int .i64 (clean a).i, .bool (clean a).b, .string (clean a).s]) := by show _ = _; rw [← HSR.out, selV, if_neg (by rintro (h | h); exact h0 h; exact h.1 h1), clean_agD]
          clear h0 h1
          go_wp2_with fail
          refine bodyPost_ret (v := .agg #[.int .i64 (kindV a), .int .i64 (clean a).i, .bool (clean a).b, .string (clean a).s]) (by simp [results, Tryz.results182, go_sem, c0, c1, c2, c3]) rfl ?_
          exact ⟨by rw [HR.out], Step.of⟩
        · have g1 : (kindV b != 0) = true := bne_iff_ne.2 h1
          cases hp : p (clean b) (clean a) with
          | true =>
            have HR : Hid (R.ag = .agg #[.int .i64 (kindV b), .int .i64 (clean b).i, .bool (clean b).b, .string (clean b).s]) := by show _ = _; rw [← HSR.out, selV, if_pos (Or.inr ⟨h1, hp⟩), clean_agD]
            rw [hp] at LF
            clear h0 h1 hp
            go_wp2_with (refine (LF.out _).mono ?_; rintro e w7 ⟨rfl, hs7⟩; clear a0 a1 a2 a3 la b0 b1 b2 b3 lb c0 c1 c2 c3 lc fc; obtain ⟨a0, a1, a2, a3⟩ := At.z4 (HA6.out.fut (w' := w7)).at0; have la := (HA6.out.fut (w' := w7)).lt; obtain ⟨b0, b1, b2, b3⟩ := At.z4 (HB6.out.fut (w' := w7)).at0; have lb := (HB6.out.fut (w' := w7)).lt; obtain ⟨c0, c1, c2, c3⟩ := At.z4 (HC6.out.fut (w' := w7)).at0; have lc := (HC6.out.fut (w' := w7)).lt; have fc := (HC6.out.fut (w' := w7)).free)
            refine bodyPost_ret (v := .agg #[.int .i64 (kindV b), .int .i64 (clean b).i, .bool (clean b).b, .string (clean b).s]) (by simp [results, Tryz.results182, go_sem, c0, c1, c2, c3]) rfl ?_
            exact ⟨by rw [HR.out], Step.of⟩
          | false =>
            have HR : Hid (R.ag = .agg #[.int .i64 (kindV a), .int .i64 (clean a).i, .bool (clean a).b, .string (clean a).s]) := by show _ = _; rw [← HSR.out, selV, if_neg (by rintro (h | h); exact h0 h; rw [hp] at h; cases h.2), clean_agD]
            rw [hp] at LF
            clear h0 h1 hp
            go_wp2_with (refine (LF.out _).mono ?_; rintro e w7 ⟨rfl, hs7⟩; clear a0 a1 a2 a3 la b0 b1 b2 b3 lb c0 c1 c2 c3 lc fc; obtain ⟨a0, a1, a2, a3⟩ := At.z4 (HA6.out.fut (w' := w7)).at0; have la := (HA6.out.fut (w' := w7)).lt; obtain ⟨b0, b1, b2, b3⟩ := At.z4 (HB6.out.fut (w' := w7)).at0; have lb := (HB6.out.fut (w' := w7)).lt; obtain ⟨c0, c1, c2, c3⟩ := At.z4 (HC6.out.fut (w' := w7)).at0; have lc := (HC6.out.fut (w' := w7)).lt; have fc := (HC6.out.fut (w' := w7)).free)
            refine bodyPost_ret (v := .agg #[.int .i64 (kindV a), .int .i64 (clean a).i, .bool (clean a).b, .string (clean a).s]) (by simp [results, Tryz.results182, go_sem, c0, c1, c2, c3]) rfl ?_
            exact ⟨by rw [HR.out], Step.of⟩
  · go_simp
    refine hK.out _ _ (by (try dsimp only); (exact ⟨Step.of, trivial⟩)) (fun hHeld => ?_)
    clear hK K
    (try simp only [Act.put, List.setIfInBounds_toArray, List.set_cons_zero, List.set_cons_succ])
    refine wpAnyH_ready (rs := [0]) (by kernel_rfl) (by simp) ?_
    refine AllReadyH.cons (o := ⟨some 7, _, _, _, _, _⟩) rfl (fun K hK => ?_) AllReadyH.nil
    go_simp
    refine hK.out _ _ (by (try dsimp only); (exact ⟨Step.of, trivial⟩)) (fun hHeld => ?_)
    clear hK K
    (try simp only [Act.put, List.setIfInBounds_toArray, List.set_cons_zero, List.set_cons_succ])
    refine wpAnyH_ready (rs := [1]) (by kernel_rfl) (by simp) ?_
    refine AllReadyH.cons (o := ⟨some 8, _, _, _, _, _⟩) rfl (fun K hK => ?_) AllReadyH.nil
    obtain ⟨hS1, hS2⟩ := hHeld
    go_simp
    (go_at_call 109; (with_reducible refine (PA.out _).mono ?_); rintro e w5 ⟨rfl, hs5⟩; clear a0 a1 a2 a3 la fa b0 b1 b2 b3 lb fb; obtain ⟨a0, a1, a2, a3⟩ := At.z4 (HA.out.fut (w' := w5)).at0; have la := (HA.out.fut (w' := w5)).lt; have fa := (HA.out.fut (w' := w5)).free; obtain ⟨b0, b1, b2, b3⟩ := At.z4 (HB.out.fut (w' := w5)).at0; have lb := (HB.out.fut (w' := w5)).lt; have fb := (HB.out.fut (w' := w5)).free)
    refine hK.out _ _ (by (try dsimp only); (exact ⟨Step.of, trivial⟩)) (fun hHeld => ?_)
    clear hK K
    (try simp only [Act.put, List.setIfInBounds_toArray, List.set_cons_zero, List.set_cons_succ])
    refine wpAnyH_ready (rs := [3]) (by kernel_rfl) (by simp) ?_
    refine AllReadyH.cons (o := ⟨some 10, _, _, _, _, _⟩) rfl (fun K hK => ?_) AllReadyH.nil
    obtain ⟨hS1, hS2⟩ := hHeld
    go_simp
    (go_at_call 109; (with_reducible refine (PB.out _).mono ?_); rintro e w6 ⟨rfl, hs6⟩; clear a0 a1 a2 a3 la fa b0 b1 b2 b3 lb fb; obtain ⟨a0, a1, a2, a3⟩ := At.z4 (HA.out.fut (w' := w6)).at0; have la := (HA.out.fut (w' := w6)).lt; have fa := (HA.out.fut (w' := w6)).free; obtain ⟨b0, b1, b2, b3⟩ := At.z4 (HB.out.fut (w' := w6)).at0; have lb := (HB.out.fut (w' := w6)).lt; have fb := (HB.out.fut (w' := w6)).free)
    refine hK.out _ _ (by (try dsimp only); (exact ⟨Step.of, trivial⟩)) (fun hHeld => ?_)
    clear hK K
    (try simp only [Act.put, List.setIfInBounds_toArray, List.set_cons_zero, List.set_cons_succ])
    refine wpAnyH_ready (rs := [4]) (by kernel_rfl) (by simp) ?_
    refine AllReadyH.cons (o := ⟨none, _, _, _, _, _⟩) rfl (fun K hK => ?_) AllReadyH.nil
    go_simp
    refine hK.out _ _ (by (try dsimp only); (exact ⟨Step.of, trivial⟩)) (fun hHeld => ?_)
    clear hK K
    (try simp only [Act.put, List.setIfInBounds_toArray, List.set_cons_zero, List.set_cons_succ])
    refine wpAnyH_ready (rs := [5]) (by kernel_rfl) (by simp) ?_
    refine AllReadyH.cons (o := ⟨none, _, _, _, _, _⟩) rfl (fun K hK => ?_) AllReadyH.nil
    go_simp
    refine hK.out _ _ (by (try dsimp only); (exact ⟨Step.of, trivial⟩)) (fun hHeld => ?_)
    clear hK K
    (try simp only [Act.put, List.setIfInBounds_toArray, List.set_cons_zero, List.set_cons_succ])
    refine wpAnyH_done (by kernel_rfl) ?_ _
    have HA6 := hide (((HA.out.fut (w' := w6)).put4 (.int .i64 (kindV a)) (.int .i64 (clean a).i) (.bool (clean a).b) (.string (clean a).s)).far4 (r := w.heap.size + 1) (by omega) (.int .i64 (kindV b)) (.int .i64 (clean b).i) (.bool (clean b).b) (.string (clean b).s))
    have HB6 := hide (((HB.out.fut (w' := w6)).far4 (r := w.heap.size) (by omega) (.int .i64 (kindV a)) (.int .i64 (clean a).i) (.bool (clean a).b) (.string (clean a).s)).put4 (.int .i64 (kindV b)) (.int .i64 (clean b).i) (.bool (clean b).b) (.string (clean b).s))
    have HC6 := hide (((HC.out.fut (w' := w6)).far4 (r := w.heap.size) (by omega) (.int .i64 (kindV a)) (.int .i64 (clean a).i) (.bool (clean a).b) (.string (clean a).s)).far4 (r := w.heap.size + 1) (by omega) (.int .i64 (kindV b)) (.int .i64 (clean b).i) (.bool (clean b).b) (.string (clean b).s))
    have hb6 : Below w.heap.size w _ := below4 (below4 (fut w w6) (Nat.le_refl _) (.int .i64 (kindV a)) (.int .i64 (clean a).i) (.bool (clean a).b) (.string (clean a).s)) (Nat.le_add_right w.heap.size 1) (.int .i64 (kindV b)) (.int .i64 (clean b).i) (.bool (clean b).b) (.string (clean b).s)
    obtain ⟨X, hX⟩ : ∃ x : World, x = (((((((w6.setCell ⟨w.heap.size, 0, none⟩ (.int .i64 (kindV a))).setCell ⟨w.heap.size, 1, none⟩ (.int .i64 (clean a).i)).setCell ⟨w.heap.size, 2, none⟩ (.bool (clean a).b)).setCell ⟨w.heap.size, 3, none⟩ (.string (clean a).s)).setCell ⟨w.heap.size + 1, 0, none⟩ (.int .i64 (kindV b))).setCell ⟨w.heap.size + 1, 1, none⟩ (.int .i64 (clean b).i)).setCell ⟨w.heap.size + 1, 2, none⟩ (.bool (clean b).b)).setCell ⟨w.heap.size + 1, 3, none⟩ (.string (clean b).s) := ⟨_, rfl⟩
    rw [← hX] at HA6 HB6 HC6 hb6
    rw [← hX]
    clear hX a0 a1 a2 a3 la fa b0 b1 b2 b3 lb fb
    have hsX : Step w X := ⟨hb6⟩
    obtain ⟨a0, a1, a2, a3⟩ := At.z4 HA6.out.at0
    have la := HA6.out.lt
    obtain ⟨b0, b1, b2, b3⟩ := At.z4 HB6.out.at0
    have lb := HB6.out.lt
    obtain ⟨c0, c1, c2, c3⟩ := At.z4 HC6.out.at0
    have lc := HC6.out.lt
    have fc := HC6.out.free
    by_cases h0 : kindV a = 0
    · have g0 : (kindV a == 0) = true := by rw [h0]; rfl
      have HR : Hid (R.ag = .agg #[.int .i64 (kindV b), .int .i64 (clean b).i, .bool (clean b).b, .string (clean b).s]) := by show _ = _; rw [← HSR.out, selV, if_pos (Or.inl h0), clean_agD]
      clear h0
      go_wp2_with fail
      refine bodyPost_ret (v := .agg #[.int .i64 (kindV b), .int .i64 (clean b).i, .bool (clean b).b, .string (clean b).s]) (by simp [results, Tryz.results182, go_sem, c0, c1, c2, c3]) rfl ?_
      exact ⟨by rw [HR.out], Step.of⟩
    · have g0 : (kindV a == 0) = false := beq_eq_false_iff_ne.2 h0
      by_cases h1 : kindV b = 0
      · have g1 : (kindV b != 0) = false := by rw [h1]; rfl
        have HR : Hid (R.ag = .agg #[.int .i64 (kindV a), .int .i64 (clean a).i, .bool (clean a).b, .string (clean a).s]) := by show _ = _; rw [← HSR.out, selV, if_neg (by rintro (h | h); exact h0 h; exact h.1 h1), clean_agD]
        clear h0 h1
        go_wp2_with fail
        refine bodyPost_ret (v := .agg #[.int .i64 (kindV a), .int .i64 (clean a).i, .bool (clean a).b, .string (clean a).s]) (by simp [results, Tryz.results182, go_sem, c0, c1, c2, c3]) rfl ?_
        exact ⟨by rw [HR.out], Step.of⟩
      · have g1 : (kindV b != 0) = true := bne_iff_ne.2 h1
        cases hp : p (clean b) (clean a) with
        | true =>
          have HR : Hid (R.ag = .agg #[.int .i64 (kindV b), .int .i64 (clean b).i, .bool (clean b).b, .string (clean b).s]) := by show _ = _; rw [← HSR.out, selV, if_pos (Or.inr ⟨h1, hp⟩), clean_agD]
          rw [hp] at LF
          clear h0 h1 hp
          go_wp2_with (refine (LF.out _).mono ?_; rintro e w7 ⟨rfl, hs7⟩; clear a0 a1 a2 a3 la b0 b1 b2 b3 lb c0 c1 c2 c3 lc fc; obtain ⟨a0, a1, a2, a3⟩ := At.z4 (HA6.out.fut (w' := w7)).at0; have la := (HA6.out.fut (w' := w7)).lt; obtain ⟨b0, b1, b2, b3⟩ := At.z4 (HB6.out.fut (w' := w7)).at0; have lb := (HB6.out.fut (w' := w7)).lt; obtain ⟨c0, c1, c2, c3⟩ := At.z4 (HC6.out.fut (w' := w7)).at0; have lc := (HC6.out.fut (w' := w7)).lt; have fc := (HC6.out.fut (w' := w7)).free)
          refine bodyPost_ret (v := .agg #[.int .i64 (kindV b), .int .i64 (clean b).i, .bool (clean b).b, .string (clean b).s]) (by simp [results, Tryz.results182, go_sem, c0, c1, c2, c3]) rfl ?_
          exact ⟨by rw [HR.out], Step.of⟩
        | false =>
          have HR : Hid (R.ag = .agg #[.int .i64 (kindV a), .int .i64 (clean a).i, .bool (clean a).b, .string (clean a).s]) := by show _ = _; rw [← HSR.out, selV, if_neg (by rintro (h | h); exact h0 h; rw [hp] at h; cases h.2), clean_agD]
          rw [hp] at LF
          clear h0 h1 hp
          go_wp2_with (refine (LF.out _).mono ?_; rintro e w7 ⟨rfl, hs7⟩; clear a0 a1 a2 a3 la b0 b1 b2 b3 lb c0 c1 c2 c3 lc fc; obtain ⟨a0, a1, a2, a3⟩ := At.z4 (HA6.out.fut (w' := w7)).at0; have la := (HA6.out.fut (w' := w7)).lt; obtain ⟨b0, b1, b2, b3⟩ := At.z4 (HB6.out.fut (w' := w7)).at0; have lb := (HB6.out.fut (w' := w7)).lt; obtain ⟨c0, c1, c2, c3⟩ := At.z4 (HC6.out.fut (w' := w7)).at0; have lc := (HC6.out.fut (w' := w7)).lt; have fc := (HC6.out.fut (w' := w7)).free)
          refine bodyPost_ret (v := .agg #[.int .i64 (kindV a), .int .i64 (clean a).i, .bool (clean a).b, .string (clean a).s]) (by simp [results, Tryz.results182, go_sem, c0, c1, c2, c3]) rfl ?_
          exact ⟨by rw [HR.out], Step.of⟩
theorem more_any (a b : Val) (w : World) : Calls Tryz.prog 184 #[a.val, b.val] w fun e w' => e = .returned (.bool (lessV b a)) ∧ Step w w' := by
  have LV := hide (pless_any b a)
  unfold Val.val at LV ⊢
  go_enter Tryz.func184, Tryz.ntmps184
  go_wp2_with (go_at_call 183; (with_reducible refine (LV.out _).mono ?_); rintro e w3 ⟨rfl, hs3⟩)
  go_ret
  exact ⟨rfl, Step.of⟩
end Go.Proofs.YtnphokhehacfnaaGreatDoor

