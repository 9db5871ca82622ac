/-
  The document's Cmp.
-/
import Derived.Test.YtinpnginjpfbpaaDoorV
import Derived.Deep.RegionHeld3
import Derived.Deep.RegionLaw
import Derived.Deep.Cut
import Derived.Deep.CutBlock
namespace Go.Proofs.YtinpnginjpfbpaaDoor
open Go.RowKit

theorem cmpV_lt {a b : Val} (h : lessV a b = true) : cmpV a b = -1 := by simp [cmpV, h]
theorem cmpV_gt {a b : Val} (h : lessV b a = true) : cmpV a b = 1 := by simp [cmpV, h, lessV_asymm h]
theorem cmpV_eq {a b : Val} (h : lessV a b = false) (h2 : lessV b a = false) : cmpV a b = 0 := by simp [cmpV, h, h2]
theorem lessV_kind {a b : Val} (h : kindV a ≠ kindV b) : lessV a b = decide (kindV a < kindV b) := by rw [lessV, if_pos h]
theorem lessV_one {a b : Val} (h : kindV a = kindV b) (h1 : kindV a = 1) : lessV a b = decide (a.i < b.i) := by rw [lessV, if_neg (by simpa using h), if_pos h1]
theorem lessV_two {a b : Val} (h : kindV a = kindV b) (h1 : kindV a = 2) : lessV a b = (!a.b && b.b) := by rw [lessV, if_neg (by simpa using h), if_neg (by omega), if_pos h1]
theorem lessV_three {a b : Val} (h : kindV a = kindV b) (h1 : kindV a = 3) : lessV a b = strLt a.s b.s := by rw [lessV, if_neg (by simpa using h), if_neg (by omega), if_neg (by omega), if_pos h1]
theorem lessV_zero {a b : Val} (h : kindV a = kindV b) (h1 : kindV a = 0) : lessV a b = false := by rw [lessV, if_neg (by simpa using h), if_neg (by omega), if_neg (by omega), if_neg (by omega)]

set_option maxRecDepth 100000 in
set_option maxHeartbeats 8000000 in
theorem rcmp_any (a b : Val) (w : World) (ha : a.s.size ≤ 9223372036854775807) (hb : b.s.size ≤ 9223372036854775807) : Calls Tryd.prog 74 #[a.val, b.val] w fun e w' => e = .returned (.int .i64 (cmpV a b)) ∧ Step w w' := by
  obtain ⟨R, hR⟩ : ∃ R, cmpV a b = R := ⟨_, rfl⟩
  have HR := hide hR
  rw [hR]
  clear hR
  have pa := vkind_any a
  have pb := vkind_any b
  unfold Val.val at pa pb ⊢
  have PA := hide pa; have PB := hide pb
  clear pa pb
  obtain ⟨W, hW⟩ : ∃ W, W = (w.alloc (.cells #[.int .i64 a.kind, .int .i64 a.i, .bool a.b, .string a.s] 57)).alloc (.cells #[.int .i64 b.kind, .int .i64 b.i, .bool b.b, .string b.s] 57) := ⟨_, rfl⟩
  have SW : Step w W := by rw [hW]; exact Step.of
  have HA : Hid (Blk W w.heap.size 57 [.int .i64 a.kind, .int .i64 a.i, .bool a.b, .string a.s]) := by rw [hW]; exact (Blk.new w [.int .i64 a.kind, .int .i64 a.i, .bool a.b, .string a.s] 57).alloc _
  have HB : Hid (Blk W (w.heap.size + 1) 57 [.int .i64 b.kind, .int .i64 b.i, .bool b.b, .string b.s]) := by rw [hW]; exact Blk.new_at (by simp) [.int .i64 b.kind, .int .i64 b.i, .bool b.b, .string b.s] 57
  have HW := hide hW
  clear hW
  go_enter Tryd.func74, Tryd.ntmps74
  go_upto_region 1 with (fail)
  rw [← HW.out]
  obtain ⟨a0, a1, a2, a3⟩ := At.z4 HA.out.at0
  obtain ⟨b0, b1, b2, b3⟩ := At.z4 HB.out.at0
  have la := HA.out.lt; have lb := HB.out.lt
  refine wp_region_held_drew (S := (fun w' => Step W w' ∧ (∀ b o, b < W.heap.size → w'.cell? ⟨b, o, none⟩ = W.cell? ⟨b, o, none⟩))) (by kernel_rfl) (by (try dsimp only); (first | exact ⟨hS1, hS2⟩ | exact ⟨Step.of, (bcell (fut _ _)).1⟩)) (fun hHeld => ?_)
  refine wpAnyH_take (i := 0) (oi := ⟨some 9, _, _, _, _, _⟩) (v := ?_) rfl (by kernel_rfl) (by kernel_rfl) (by kernel_rfl) (fun _ _ _ h => h) (Or.inl ⟨by rfl, ?_⟩) (by assumption) ?_
  rotate_left
  · ((intro w hSw); (try dsimp only at hSw); go_simp; (try with_reducible rfl))
  (try simp only [Act.put, List.setIfInBounds_toArray, List.set_cons_zero, List.set_cons_succ])
  refine wpAnyH_take (i := 2) (oi := ⟨some 11, _, _, _, _, _⟩) (v := ?_) rfl (by kernel_rfl) (by kernel_rfl) (by kernel_rfl) (fun _ _ _ h => h) (Or.inl ⟨by rfl, ?_⟩) (by assumption) ?_
  rotate_left
  · ((intro w hSw); (try dsimp only at hSw); go_simp; (try with_reducible rfl))
  (try simp only [Act.put, List.setIfInBounds_toArray, List.set_cons_zero, List.set_cons_succ])
  refine wpAnyH_ready (rs := [1]) (by kernel_rfl) (by simp) ?_
  refine AllReadyH.cons (o := ⟨some 10, _, _, _, _, _⟩) rfl (fun K hK => ?_) AllReadyH.nil
  obtain ⟨hS1, hS2⟩ := hHeld
  go_simp
  (go_at_call 41; (with_reducible refine (PA.out _).mono ?_); rintro e w3 ⟨rfl, hq3⟩)
  refine hK.out _ _ (by (try dsimp only); (first | exact ⟨hS1, hS2⟩ | exact ⟨Step.of, (bcell (fut _ _)).1⟩)) (fun hHeld => ?_)
  clear hK K
  (try simp only [Act.put, List.setIfInBounds_toArray, List.set_cons_zero, List.set_cons_succ])
  refine wpAnyH_ready (rs := [3]) (by kernel_rfl) (by simp) ?_
  refine AllReadyH.cons (o := ⟨some 12, _, _, _, _, _⟩) rfl (fun K hK => ?_) AllReadyH.nil
  obtain ⟨hS1, hS2⟩ := hHeld
  go_simp
  (go_at_call 41; (with_reducible refine (PB.out _).mono ?_); rintro e w' ⟨rfl, hq⟩)
  refine hK.out _ _ (by (try dsimp only); (first | exact ⟨hS1, hS2⟩ | exact ⟨Step.of, (bcell (fut _ _)).1⟩)) (fun hHeld => ?_)
  clear hK K
  (try simp only [Act.put, List.setIfInBounds_toArray, List.set_cons_zero, List.set_cons_succ])
  refine wpAnyH_take (i := 4) (oi := ⟨some 5, _, _, _, _, _⟩) (v := ?_) rfl (by kernel_rfl) (by kernel_rfl) (by kernel_rfl) (fun _ _ _ h => h) (Or.inl ⟨by rfl, ?_⟩) (by assumption) ?_
  rotate_left
  · ((intro w hSw); (try dsimp only at hSw); go_simp; (try with_reducible rfl))
  (try simp only [Act.put, List.setIfInBounds_toArray, List.set_cons_zero, List.set_cons_succ])
  refine wpAnyH_take (i := 5) (oi := ⟨some 6, _, _, _, _, _⟩) (v := ?_) rfl (by kernel_rfl) (by kernel_rfl) (by kernel_rfl) (fun _ _ _ h => h) (Or.inl ⟨by rfl, ?_⟩) (by assumption) ?_
  rotate_left
  · ((intro w hSw); (try dsimp only at hSw); go_simp; (try with_reducible rfl))
  (try simp only [Act.put, List.setIfInBounds_toArray, List.set_cons_zero, List.set_cons_succ])
  refine wpAnyH_done (by kernel_rfl) ?_ _
  obtain ⟨hS1, hS2⟩ := hHeld
  clear a0 a1 a2 a3 b0 b1 b2 b3 la lb hS2
  obtain ⟨w5, rfl⟩ : ∃ w5 : World, w5 = w' := ⟨_, rfl⟩
  obtain ⟨a0, a1, a2, a3⟩ := At.z4 (HA.out.fut (w' := w5)).at0
  obtain ⟨b0, b1, b2, b3⟩ := At.z4 (HB.out.fut (w' := w5)).at0
  have la := (HA.out.fut (w' := w5)).lt; have lb := (HB.out.fut (w' := w5)).lt
  by_cases hk : kindV a = kindV b
  · have e0 : (kindV a != kindV b) = false := by simpa using hk
    have HK := hide hk
    clear hk
    obtain ⟨k0, k3⟩ := kindV_bd a
    have hcs : kindV a = 1 ∨ kindV a = 2 ∨ kindV a = 3 ∨ kindV a = 0 := by omega
    clear k0 k3
    rcases hcs with h | h | h | h
    · have H1 := hide (lessV_one HK.out h)
      have H2 := hide (lessV_one HK.out.symm (by rw [← HK.out]; exact h))
      have e1 : (kindV a == 1) = true := by simpa using h
      clear h
      rcases Int.lt_trichotomy a.i b.i with g | g | g
      · have HX := hide (cmpV_lt (a := a) (b := b) (by rw [H1.out]; simpa using g))
        have g2 : ¬ b.i < a.i := by omega
        go_wp2_with fail
        go_quiet (fail)
        go_wp2_with fail
        go_ret
        exact ⟨ret_int (by rw [← HR.out]; exact HX.out.symm), Step.of⟩
      · have HX := hide (cmpV_eq (a := a) (b := b) (by rw [H1.out]; simp; omega) (by rw [H2.out]; simp; omega))
        have g1 : ¬ a.i < b.i := by omega
        have g2 : ¬ b.i < a.i := by omega
        have g3 : b.i ≤ a.i := by omega
        have g4 : a.i ≤ b.i := by omega
        clear g
        go_wp2_with fail
        go_quiet (fail)
        go_wp2_with fail
        go_ret
        exact ⟨ret_int (by rw [← HR.out]; exact HX.out.symm), Step.of⟩
      · have HX := hide (cmpV_gt (a := a) (b := b) (by rw [H2.out]; simpa using g))
        have g2 : ¬ a.i < b.i := by omega
        have g3 : b.i ≤ a.i := by omega
        go_wp2_with fail
        go_quiet (fail)
        go_wp2_with fail
        go_ret
        exact ⟨ret_int (by rw [← HR.out]; exact HX.out.symm), Step.of⟩
    · have H1 := hide (lessV_two HK.out h)
      have H2 := hide (lessV_two HK.out.symm (by rw [← HK.out]; exact h))
      have e1 : (kindV a == 1) = false := by simp [h]
      have e2 : (kindV a == 2) = true := by simp [h]
      clear h
      obtain ⟨u, hu⟩ : ∃ u, a.b = u := ⟨_, rfl⟩
      obtain ⟨v, hv⟩ : ∃ v, b.b = v := ⟨_, rfl⟩
      rw [hu] at H1 H2 a2
      rw [hv] at H1 H2 b2
      have HX : Hid (cmpV a b = if !u && v then -1 else if !v && u then 1 else 0) := by show _ = _; rw [cmpV, H1.out, H2.out]
      clear hu hv H1 H2
      cases u <;> cases v
      all_goals
        go_wp2_with fail
        go_quiet (fail)
        go_wp2_with fail
        go_ret
        exact ⟨ret_int (by rw [← HR.out, HX.out]; rfl), Step.of⟩
    · have H1 := hide (lessV_three HK.out h)
      have H2 := hide (lessV_three HK.out.symm (by rw [← HK.out]; exact h))
      have e1 : (kindV a == 1) = false := by simp [h]
      have e2 : (kindV a == 2) = false := by simp [h]
      have e3 : (kindV a == 3) = true := by simp [h]
      clear h
      obtain ⟨L, hL⟩ : ∃ L, strLt a.s b.s = L := ⟨_, rfl⟩
      obtain ⟨M, hM⟩ : ∃ M, strLt b.s a.s = M := ⟨_, rfl⟩
      have HX : Hid (cmpV a b = if L then -1 else if M then 1 else 0) := by show _ = _; rw [cmpV, H1.out, H2.out, hL, hM]
      have ba := fun w' => below_any a.s b.s w' ha hb
      have bb := fun w' => below_any b.s a.s w' hb ha
      rw [hL] at ba
      rw [hM] at bb
      have BA := hide ba; have BB := hide bb
      clear ba bb hL hM H1 H2
      go_upto_region 13 with (fail)
      refine wp_region_held_drew (S := (fun w' => Step w5 w' ∧ (∀ b o, b < w5.heap.size → w'.cell? ⟨b, o, none⟩ = w5.cell? ⟨b, o, none⟩))) (by kernel_rfl) (by (try dsimp only); (first | exact ⟨hS1, hS2⟩ | exact ⟨Step.of, (bcell (fut _ _)).1⟩)) (fun hHeld => ?_)
      refine wpAnyH_take (i := 0) (oi := ⟨some 50, _, _, _, _, _⟩) (v := ?_) rfl (by kernel_rfl) (by kernel_rfl) (by kernel_rfl) (fun _ _ _ h => h) (Or.inl ⟨by rfl, ?_⟩) (by assumption) ?_
      rotate_left
      · ((intro w hSw); (try dsimp only at hSw); go_simp; (try with_reducible rfl))
      (try simp only [Act.put, List.setIfInBounds_toArray, List.set_cons_zero, List.set_cons_succ])
      refine wpAnyH_take (i := 1) (oi := ⟨some 51, _, _, _, _, _⟩) (v := ?_) rfl (by kernel_rfl) (by kernel_rfl) (by kernel_rfl) (fun _ _ _ h => h) (Or.inl ⟨by rfl, ?_⟩) (by assumption) ?_
      rotate_left
      · ((intro w hSw); (try dsimp only at hSw); go_simp; (try with_reducible rfl))
      (try simp only [Act.put, List.setIfInBounds_toArray, List.set_cons_zero, List.set_cons_succ])
      refine wpAnyH_take (i := 2) (oi := ⟨some 52, _, _, _, _, _⟩) (v := ?_) rfl (by kernel_rfl) (by kernel_rfl) (by kernel_rfl) (fun _ _ _ h => h) (Or.inl ⟨by rfl, ?_⟩) (by assumption) ?_
      rotate_left
      · ((intro w hSw); (try dsimp only at hSw); go_simp; (try with_reducible rfl))
      (try simp only [Act.put, List.setIfInBounds_toArray, List.set_cons_zero, List.set_cons_succ])
      refine wpAnyH_take (i := 3) (oi := ⟨some 53, _, _, _, _, _⟩) (v := ?_) rfl (by kernel_rfl) (by kernel_rfl) (by kernel_rfl) (fun _ _ _ h => h) (Or.inl ⟨by rfl, ?_⟩) (by assumption) ?_
      rotate_left
      · ((intro w hSw); (try dsimp only at hSw); go_simp; (try with_reducible rfl))
      (try simp only [Act.put, List.setIfInBounds_toArray, List.set_cons_zero, List.set_cons_succ])
      refine wpAnyH_take (i := 5) (oi := ⟨some 55, _, _, _, _, _⟩) (v := ?_) rfl (by kernel_rfl) (by kernel_rfl) (by kernel_rfl) (fun _ _ _ h => h) (Or.inl ⟨by rfl, ?_⟩) (by assumption) ?_
      rotate_left
      · ((intro w hSw); (try dsimp only at hSw); go_simp; (try with_reducible rfl))
      (try simp only [Act.put, List.setIfInBounds_toArray, List.set_cons_zero, List.set_cons_succ])
      refine wpAnyH_take (i := 6) (oi := ⟨some 56, _, _, _, _, _⟩) (v := ?_) rfl (by kernel_rfl) (by kernel_rfl) (by kernel_rfl) (fun _ _ _ h => h) (Or.inl ⟨by rfl, ?_⟩) (by assumption) ?_
      rotate_left
      · ((intro w hSw); (try dsimp only at hSw); go_simp; (try with_reducible rfl))
      (try simp only [Act.put, List.setIfInBounds_toArray, List.set_cons_zero, List.set_cons_succ])
      refine wpAnyH_take (i := 7) (oi := ⟨some 57, _, _, _, _, _⟩) (v := ?_) rfl (by kernel_rfl) (by kernel_rfl) (by kernel_rfl) (fun _ _ _ h => h) (Or.inl ⟨by rfl, ?_⟩) (by assumption) ?_
      rotate_left
      · ((intro w hSw); (try dsimp only at hSw); go_simp; (try with_reducible rfl))
      (try simp only [Act.put, List.setIfInBounds_toArray, List.set_cons_zero, List.set_cons_succ])
      refine wpAnyH_take (i := 8) (oi := ⟨some 58, _, _, _, _, _⟩) (v := ?_) rfl (by kernel_rfl) (by kernel_rfl) (by kernel_rfl) (fun _ _ _ h => h) (Or.inl ⟨by rfl, ?_⟩) (by assumption) ?_
      rotate_left
      · ((intro w hSw); (try dsimp only at hSw); go_simp; (try with_reducible rfl))
      (try simp only [Act.put, List.setIfInBounds_toArray, List.set_cons_zero, List.set_cons_succ])
      refine wpAnyH_ready (rs := [4]) (by kernel_rfl) (by simp) ?_
      refine AllReadyH.cons (o := ⟨some 54, _, _, _, _, _⟩) rfl (fun K hK => ?_) AllReadyH.nil
      obtain ⟨hS1, hS2⟩ := hHeld
      go_simp
      (go_at_call 81; (with_reducible refine (BA.out _).mono ?_); rintro e w6 ⟨rfl, hq6⟩)
      refine hK.out _ _ (by (try dsimp only); (first | exact ⟨hS1, hS2⟩ | exact ⟨Step.of, (bcell (fut _ _)).1⟩)) (fun hHeld => ?_)
      clear hK K
      (try simp only [Act.put, List.setIfInBounds_toArray, List.set_cons_zero, List.set_cons_succ])
      refine wpAnyH_ready (rs := [9]) (by kernel_rfl) (by simp) ?_
      refine AllReadyH.cons (o := ⟨some 59, _, _, _, _, _⟩) rfl (fun K hK => ?_) AllReadyH.nil
      obtain ⟨hS1, hS2⟩ := hHeld
      go_simp
      (go_at_call 81; (with_reducible refine (BB.out _).mono ?_); rintro e w7 ⟨rfl, hq7⟩)
      refine hK.out _ _ (by (try dsimp only); (first | exact ⟨hS1, hS2⟩ | exact ⟨Step.of, (bcell (fut _ _)).1⟩)) (fun hHeld => ?_)
      clear hK K
      (try simp only [Act.put, List.setIfInBounds_toArray, List.set_cons_zero, List.set_cons_succ])
      refine wpAnyH_take (i := 10) (oi := ⟨some 7, _, _, _, _, _⟩) (v := ?_) rfl (by kernel_rfl) (by kernel_rfl) (by kernel_rfl) (fun _ _ _ h => h) (Or.inl ⟨by rfl, ?_⟩) (by assumption) ?_
      rotate_left
      · ((intro w hSw); (try dsimp only at hSw); go_simp; (try with_reducible rfl))
      (try simp only [Act.put, List.setIfInBounds_toArray, List.set_cons_zero, List.set_cons_succ])
      refine wpAnyH_take (i := 11) (oi := ⟨some 8, _, _, _, _, _⟩) (v := ?_) rfl (by kernel_rfl) (by kernel_rfl) (by kernel_rfl) (fun _ _ _ h => h) (Or.inl ⟨by rfl, ?_⟩) (by assumption) ?_
      rotate_left
      · ((intro w hSw); (try dsimp only at hSw); go_simp; (try with_reducible rfl))
      (try simp only [Act.put, List.setIfInBounds_toArray, List.set_cons_zero, List.set_cons_succ])
      refine wpAnyH_done (by kernel_rfl) ?_ _
      obtain ⟨hS1, hS2⟩ := hHeld
      cases L <;> cases M
      all_goals
        go_wp2_with fail
        go_ret
        exact ⟨ret_int (by rw [← HR.out, HX.out]; rfl), Step.of⟩
    · have HX := hide (cmpV_eq (lessV_zero HK.out h) (lessV_zero HK.out.symm (by rw [← HK.out]; exact h)))
      have e1 : (kindV a == 1) = false := by simp [h]
      have e2 : (kindV a == 2) = false := by simp [h]
      have e3 : (kindV a == 3) = false := by simp [h]
      clear h
      go_wp2_with fail
      go_ret
      exact ⟨ret_int (by rw [← HR.out]; exact HX.out.symm), Step.of⟩
  · have e0 : (kindV a != kindV b) = true := by simpa using hk
    have H1 := hide (lessV_kind hk)
    have H2 := hide (lessV_kind (a := b) (b := a) (fun e => hk e.symm))
    by_cases g : kindV a < kindV b
    · have HX := hide (cmpV_lt (a := a) (b := b) (by rw [H1.out]; simpa using g))
      clear hk
      go_wp2_with fail
      go_ret
      exact ⟨ret_int (by rw [← HR.out]; exact HX.out.symm), Step.of⟩
    · have g2 : kindV b < kindV a := by omega
      have HX := hide (cmpV_gt (a := a) (b := b) (by rw [H2.out]; simpa using g2))
      clear hk g
      go_wp2_with fail
      go_ret
      exact ⟨ret_int (by rw [← HR.out]; exact HX.out.symm), Step.of⟩
end Go.Proofs.YtinpnginjpfbpaaDoor
