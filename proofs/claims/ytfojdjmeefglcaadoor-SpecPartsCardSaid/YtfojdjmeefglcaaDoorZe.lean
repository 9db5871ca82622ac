/-
  spec.Apply and the document's: what a field makes of a value.
-/
import Derived.Test.YtfojdjmeefglcaaDoorZb
import Derived.Test.YtfojdjmeefglcaaDoorZd
import Derived.Test.YtfojdjmeefglcaaDoorVc
namespace Go.Proofs.YtfojdjmeefglcaaDoor
open Go.RowKit

theorem applyR_bad {f : Fld} {v : Val} (h : paramB f = false) : applyR f v = (Val.zero, 1300) := by rw [applyR, if_pos h]
theorem applyR_same {f : Fld} {v : Val} (h : paramB f = true) (h2 : kindV v = 0 ∨ f.trans = 0) : applyR f v = (clean v, 0) := by rw [applyR, if_neg (by rw [h]; simp), if_pos h2]
theorem applyR_bucket {f : Fld} {v : Val} (h : paramB f = true) (h2 : ¬ (kindV v = 0 ∨ f.trans = 0)) (h3 : f.trans = 1) : applyR f v = (⟨1, (crcT (bytesT (clean v)) : Int) % f.param, false, .empty⟩, 0) := by rw [applyR, if_neg (by rw [h]; simp), if_neg h2, if_pos h3]
theorem applyR_int {f : Fld} {v : Val} (h : paramB f = true) (h2 : ¬ (kindV v = 0 ∨ f.trans = 0)) (h3 : f.trans ≠ 1) (h4 : kindV v = 1) : applyR f v = (⟨1, floorT (clean v).i f.param, false, .empty⟩, 0) := by rw [applyR, if_neg (by rw [h]; simp), if_neg h2, if_neg h3, if_pos h4]
theorem applyR_text {f : Fld} {v : Val} (h : paramB f = true) (h2 : ¬ (kindV v = 0 ∨ f.trans = 0)) (h3 : f.trans ≠ 1) (h4 : kindV v = 3) : applyR f v = (⟨3, 0, false, firstT (clean v).s f.param⟩, 0) := by rw [applyR, if_neg (by rw [h]; simp), if_neg h2, if_neg h3, if_neg (by omega), if_pos h4]
theorem applyR_bool {f : Fld} {v : Val} (h : paramB f = true) (h2 : ¬ (kindV v = 0 ∨ f.trans = 0)) (h3 : f.trans ≠ 1) (h4 : kindV v = 2) : applyR f v = (Val.zero, 1300) := by rw [applyR, if_neg (by rw [h]; simp), if_neg h2, if_neg h3, if_neg (by omega), if_neg (by omega)]
theorem param_bd {f : Fld} (h : paramB f = true) (h0 : f.trans ≠ 0) : 1 ≤ f.param ∧ f.param ≤ 1024 := by
  unfold paramB at h
  rw [if_neg h0] at h
  split at h
  · simpa using h
  · cases h
/-- The value's bytes are the call's own word for it. -/
def AG (v : Val) : Value := .agg #[.int .i64 (kindV v), .int .i64 (clean v).i, .bool (clean v).b, .string (clean v).s]
theorem clean_ag (v : Val) : (clean v).val = .agg #[.int .i64 (kindV v), .int .i64 (clean v).i, .bool (clean v).b, .string (clean v).s] := by
  show Value.agg #[_, _, _, _] = _
  rw [clean_kind]
set_option maxRecDepth 100000 in
set_option maxHeartbeats 8000000 in
theorem papply_any (f : Fld) (v : Val) (w : World) (hv : v.s.size ≤ 9223372036854775000) (hi1 : -9223372036854775808 ≤ v.i) (hi2 : v.i ≤ 9223372036854775807) :
    Calls Tryd.prog 45 #[.agg #[.int .i64 f.source, .int .i64 f.trans, .int .i64 f.param], .agg #[.int .i64 v.kind, .int .i64 v.i, .bool v.b, .string v.s]] w fun e w' => e = .returned (.tuple #[(applyR f v).1.val, .int .i64 (applyR f v).2]) ∧ Step w w' := by
  obtain ⟨T, hT⟩ : ∃ T, applyR f v = T := ⟨_, rfl⟩
  have HT := hide hT
  rw [hT]
  clear hT
  obtain ⟨W, hW⟩ : ∃ W, W = ((w.alloc (.cells #[.int .i64 f.source, .int .i64 f.trans, .int .i64 f.param] 78)).alloc (.cells #[.int .i64 v.kind, .int .i64 v.i, .bool v.b, .string v.s] 73)).alloc (.cells #[.int .i64 0, .int .i64 0, .bool false, .string ⟨#[]⟩] 73) := ⟨_, rfl⟩
  have SW : Step w W := by rw [hW]; exact Step.of
  have HFB : Hid (Blk W w.heap.size 78 [.int .i64 f.source, .int .i64 f.trans, .int .i64 f.param]) := by rw [hW]; exact ((Blk.new w [.int .i64 f.source, .int .i64 f.trans, .int .i64 f.param] 78).alloc _).alloc _
  have HVB : Hid (Blk W (w.heap.size + 1) 73 [.int .i64 v.kind, .int .i64 v.i, .bool v.b, .string v.s]) := by rw [hW]; exact (Blk.new_at (by simp) [.int .i64 v.kind, .int .i64 v.i, .bool v.b, .string v.s] 73).alloc _
  have HRB : Hid (Blk W (w.heap.size + 1 + 1) 73 [.int .i64 0, .int .i64 0, .bool false, .string ⟨#[]⟩]) := by rw [hW]; exact Blk.new_at (by simp) [.int .i64 0, .int .i64 0, .bool false, .string ⟨#[]⟩] 73
  have HW := hide hW
  have hzW := SW.size
  clear hW
  have PP := hide (pparam_any f.trans f.param)
  have hpe : paramB ⟨0, f.trans, f.param⟩ = paramB f := rfl
  rw [hpe] at PP
  cases hp : paramB f with
  | false =>
    have hE : Hid (T = (Val.zero, 1300)) := by show _ = _; rw [← HT.out]; exact applyR_bad hp
    rw [hp] at PP
    clear hp hpe
    go_enter Tryd.func45, Tryd.ntmps45
    go_wp2_with (go_at_call 82; (with_reducible refine (PP.out _).mono ?_); rintro e w1 ⟨rfl, rfl⟩)
    refine bodyPost_ret (v := .tuple #[.agg #[.int .i64 0, .int .i64 0, .bool false, .string ⟨#[]⟩], .int .i64 1300]) (by simp [results, Tryd.results45, go_sem]) rfl ⟨by rw [hE.out]; rfl, Step.of⟩
  | true =>
    have HP := hide hp
    rw [hp] at PP
    clear hp hpe
    have PV := hide (plain_ag v)
    obtain ⟨k0, k3⟩ := kindV_bd v
    have hcs : (clean v).s.size ≤ 9223372036854775000 := by
      unfold clean
      split
      · exact Nat.zero_le _
      split
      · exact Nat.zero_le _
      split
      · exact hv
      · exact Nat.zero_le _
    have hci : -9223372036854775808 ≤ (clean v).i ∧ (clean v).i ≤ 9223372036854775807 := by
      unfold clean
      split
      · exact ⟨hi1, hi2⟩
      split
      · exact ⟨show (-9223372036854775808 : Int) ≤ 0 by decide, show (0 : Int) ≤ 9223372036854775807 by decide⟩
      split
      · exact ⟨show (-9223372036854775808 : Int) ≤ 0 by decide, show (0 : Int) ≤ 9223372036854775807 by decide⟩
      · exact ⟨show (-9223372036854775808 : Int) ≤ 0 by decide, show (0 : Int) ≤ 9223372036854775807 by decide⟩
    obtain ⟨hci1, hci2⟩ := hci
    have pb := fun w' => pbytes_any (clean v) w'
    rw [clean_kind] at pb
    have PB := hide pb
    clear pb
    have HR0 := hide (fun h2 : kindV v = 0 ∨ f.trans = 0 => applyR_same (v := v) HP.out h2)
    have HCV := hide (clean_ag v)
    go_enter Tryd.func45, Tryd.ntmps45
    go_upto_region 4 with (first
      | (go_at_call 82; (with_reducible refine (PP.out _).mono ?_); rintro e w1 ⟨rfl, rfl⟩)
      | (go_at_call 78; (with_reducible refine (PV.out _).mono ?_); rintro e w3 ⟨rfl, hs3⟩; rw [← HW.out] at hs3; have bv := HVB.out.fut (w' := w3); obtain ⟨x0, x1, x2, x3⟩ := At.z4 bv.at0; have fx := bv.free; have lx := bv.lt; have HV3 := hide bv; clear bv))
    obtain ⟨X, hX⟩ : ∃ X, X = (((w3.setCell ⟨w.heap.size + 1, 0, none⟩ (.int .i64 (kindV v))).setCell ⟨w.heap.size + 1, 1, none⟩ (.int .i64 (clean v).i)).setCell ⟨w.heap.size + 1, 2, none⟩ (.bool (clean v).b)).setCell ⟨w.heap.size + 1, 3, none⟩ (.string (clean v).s) := ⟨_, rfl⟩
    have HVX : Hid (Blk X (w.heap.size + 1) 73 [.int .i64 (kindV v), .int .i64 (clean v).i, .bool (clean v).b, .string (clean v).s]) := by rw [hX]; exact (((HV3.out.set_ 0 (.int .i64 (kindV v))).set_ 1 (.int .i64 (clean v).i)).set_ 2 (.bool (clean v).b)).set_ 3 (.string (clean v).s)
    have HFX : Hid (Blk X w.heap.size 78 [.int .i64 f.source, .int .i64 f.trans, .int .i64 f.param]) := by rw [hX]; exact ((((HFB.out.fut (w' := w3)).far (by simp) _).far (by simp) _).far (by simp) _).far (by simp) _
    have HRX : Hid (Blk X (w.heap.size + 1 + 1) 73 [.int .i64 0, .int .i64 0, .bool false, .string ⟨#[]⟩]) := by rw [hX]; exact ((((HRB.out.fut (w' := w3)).far (by simp) _).far (by simp) _).far (by simp) _).far (by simp) _
    have SX : Step w X := by rw [hX]; exact Step.of
    rw [← hX]
    clear hX x0 x1 x2 x3 fx lx hs3
    have hzX := SX.size
    obtain ⟨x0, x1, x2, x3⟩ := At.z4 HVX.out.at0; have lx := HVX.out.lt
    obtain ⟨y0, y1, y2⟩ := At.z3 HFX.out.at0; have ly := HFX.out.lt
    obtain ⟨r0, r1, r2, r3⟩ := At.z4 HRX.out.at0; have fr := HRX.out.free; have lr := HRX.out.lt
    have LE2 : Hid (w.heap.size + 1 + 1 ≤ X.heap.size) := by show _ ≤ _; omega
    by_cases hsame : kindV v = 0 ∨ f.trans = 0
    · have hE : Hid (T = (clean v, 0)) := by show _ = _; rw [← HT.out]; exact HR0.out hsame
      have hg : (kindV v == 0) = true ∨ ((kindV v == 0) = false ∧ (f.trans == 0) = true) := by
        by_cases h0 : kindV v = 0
        · exact .inl (by rw [h0]; rfl)
        · exact .inr ⟨by simpa using h0, by simpa using hsame.resolve_left h0⟩
      clear hsame
      have HD := hide ((((HRX.out.set_ 0 (.int .i64 (kindV v))).set_ 1 (.int .i64 (clean v).i)).set_ 2 (.bool (clean v).b)).set_ 3 (.string (clean v).s))
      obtain ⟨t0, t1, t2, t3⟩ := At.z4 HD.out.at0
      rcases hg with hg | ⟨hg0, hg⟩
      all_goals
        go_wp2_with fail
        refine bodyPost_ret (v := .tuple #[.agg #[.int .i64 (kindV v), .int .i64 (clean v).i, .bool (clean v).b, .string (clean v).s], .int .i64 0]) (by simp [results, Tryd.results45, go_sem, t0, t1, t2, t3]) rfl ⟨by rw [hE.out]; exact congrArg (fun x => Ending.returned (.tuple #[x, .int .i64 0])) HCV.out.symm, Step.of⟩
    · have hg0 : (kindV v == 0) = false := by simp; omega
      have hg1 : (f.trans == 0) = false := by simp; omega
      have hb := param_bd HP.out (by omega)
      obtain ⟨hb1, hb2⟩ := hb
      have HN := hide hsame
      by_cases h1 : f.trans = 1
      · have h1b : (f.trans == 1) = true := by simpa using h1
        have hE : Hid (T = (⟨1, (crcT (bytesT (clean v)) : Int) % f.param, false, .empty⟩, 0)) := by show _ = _; rw [← HT.out]; exact applyR_bucket HP.out HN.out h1
        have CO := hide (fun w' hb => crcOf_any (bytesT (clean v)) w' hb)
        have hbz : (bytesT (clean v)).size ≤ 9223372036854775807 := by
          unfold bytesT
          split
          · exact Nat.le_trans (by simp [be8, ByteArray.size]) (show 8 ≤ 9223372036854775807 by decide)
          split
          · split <;> exact Nat.le_trans (Nat.le_refl 1) (by decide)
          · omega
        have CO := hide (fun w' => CO.out w' hbz)
        have hcl := crcT_lt (bytesT (clean v))
        generalize crcT (bytesT (clean v)) = z at CO hE hcl
        have hmod : ((z : Nat) : Int).tmod f.param = (z : Int) % f.param := Int.tmod_eq_emod_of_nonneg (by omega)
        have hz1 := Int.emod_nonneg (z : Int) (show f.param ≠ 0 by omega)
        have hz2 := Int.emod_lt_of_pos (z : Int) (show 0 < f.param by omega)
        have hpn : ¬ f.param = 0 := by omega
        obtain ⟨q, hq⟩ : ∃ q, (z : Int) % f.param = q := ⟨_, rfl⟩
        rw [hq] at hmod hE hz1 hz2
        clear h1 hsame hq
        go_upto_region 7 with (fail)
        refine wp_region_held_drew (S := (fun w' => Step w w' ∧ (∀ b o, b < w.heap.size + 1 + 1 → w'.cell? ⟨b, o, none⟩ = X.cell? ⟨b, o, none⟩))) (by kernel_rfl) (by (try dsimp only); (first | exact ⟨hS1, hS2⟩ | exact ⟨Step.of, fun b o h => ((fut X _).mono LE2.out).cell (p := ⟨b, o, none⟩) h⟩)) (fun hHeld => ?_)
        refine wpAnyH_take (i := 0) (oi := ⟨some 29, _, _, _, _, _⟩) (v := ?_) rfl (by kernel_rfl) (by kernel_rfl) (by kernel_rfl) (fun _ _ _ h => h) (Or.inl ⟨by rfl, ?_⟩) (by assumption) ?_
        rotate_left
        · ((intro w hSw); (try dsimp only at hSw); go_simp; (try with_reducible rfl))
        (try simp only [Act.put, List.setIfInBounds_toArray, List.set_cons_zero, List.set_cons_succ])
        refine wpAnyH_take (i := 3) (oi := ⟨some 32, _, _, _, _, _⟩) (v := ?_) rfl (by kernel_rfl) (by kernel_rfl) (by kernel_rfl) (fun _ _ _ h => h) (Or.inl ⟨by rfl, ?_⟩) (by assumption) ?_
        rotate_left
        · ((intro w hSw); (try dsimp only at hSw); go_simp; (try with_reducible rfl))
        (try simp only [Act.put, List.setIfInBounds_toArray, List.set_cons_zero, List.set_cons_succ])
        refine wpAnyH_take (i := 4) (oi := ⟨some 33, _, _, _, _, _⟩) (v := ?_) rfl (by kernel_rfl) (by kernel_rfl) (by kernel_rfl) (fun _ _ _ h => h) (Or.inl ⟨by rfl, ?_⟩) (by assumption) ?_
        rotate_left
        · ((intro w hSw); (try dsimp only at hSw); go_simp; (try with_reducible rfl))
        (try simp only [Act.put, List.setIfInBounds_toArray, List.set_cons_zero, List.set_cons_succ])
        refine wpAnyH_ready (rs := [1]) (by kernel_rfl) (by simp) ?_
        refine AllReadyH.cons (o := ⟨some 30, _, _, _, _, _⟩) rfl (fun K hK => ?_) AllReadyH.nil
        obtain ⟨hS1, hS2⟩ := hHeld
        go_simp
        (go_at_call 84; (with_reducible refine (PB.out _).mono ?_); rintro e w4 ⟨rfl, hw4⟩; have br := HRX.out.fut (w' := w4); clear r0 r1 r2 r3 fr lr; obtain ⟨r0, r1, r2, r3⟩ := At.z4 br.at0; have fr := br.free; have lr := br.lt; have HRY := hide br; clear br)
        refine hK.out _ _ (by (try dsimp only); (first | exact ⟨hS1, hS2⟩ | exact ⟨Step.of, fun b o h => ((fut X _).mono LE2.out).cell (p := ⟨b, o, none⟩) h⟩)) (fun hHeld => ?_)
        clear hK K
        (try simp only [Act.put, List.setIfInBounds_toArray, List.set_cons_zero, List.set_cons_succ])
        refine wpAnyH_ready (rs := [2]) (by kernel_rfl) (by simp) ?_
        refine AllReadyH.cons (o := ⟨some 31, _, _, _, _, _⟩) rfl (fun K hK => ?_) AllReadyH.nil
        obtain ⟨hS1, hS2⟩ := hHeld
        go_simp
        (go_at_call 83; (with_reducible refine (CO.out _).mono ?_); rintro e w5 ⟨rfl, hw5⟩; have br := HRX.out.fut (w' := w5); clear r0 r1 r2 r3 fr lr HRY; obtain ⟨r0, r1, r2, r3⟩ := At.z4 br.at0; have fr := br.free; have lr := br.lt; have HRY := hide br; clear br)
        refine hK.out _ _ (by (try dsimp only); (first | exact ⟨hS1, hS2⟩ | exact ⟨Step.of, fun b o h => ((fut X _).mono LE2.out).cell (p := ⟨b, o, none⟩) h⟩)) (fun hHeld => ?_)
        clear hK K
        (try simp only [Act.put, List.setIfInBounds_toArray, List.set_cons_zero, List.set_cons_succ])
        refine wpAnyH_take (i := 5) (oi := ⟨some 34, _, _, _, _, _⟩) (v := ?_) rfl (by kernel_rfl) (by kernel_rfl) (by kernel_rfl) (fun _ _ _ h => h) (Or.inl ⟨by rfl, ?_⟩) (by assumption) ?_
        rotate_left
        · ((intro w hSw); (try dsimp only at hSw); go_simp; (try with_reducible rfl))
        (try simp only [Act.put, List.setIfInBounds_toArray, List.set_cons_zero, List.set_cons_succ])
        refine wpAnyH_take (i := 6) (oi := ⟨some 35, _, _, _, _, _⟩) (v := ?_) rfl (by kernel_rfl) (by kernel_rfl) (by kernel_rfl) (fun _ _ _ h => h) (Or.inl ⟨by rfl, ?_⟩) (by assumption) ?_
        rotate_left
        · ((intro w hSw); (try dsimp only at hSw); go_simp; (try with_reducible rfl))
        (try simp only [Act.put, List.setIfInBounds_toArray, List.set_cons_zero, List.set_cons_succ])
        refine wpAnyH_ready (rs := [7]) (by kernel_rfl) (by simp) ?_
        refine AllReadyH.cons (o := ⟨none, _, _, _, _, _⟩) rfl (fun K hK => ?_) AllReadyH.nil
        go_simp
        refine hK.out _ _ (by (try dsimp only); (exact ⟨Step.of, fun b o h => ((((((fut X w5).mono LE2.out).setCell (p := ⟨w.heap.size + 1 + 1, 0, none⟩) (Nat.le_refl _) _).setCell (p := ⟨w.heap.size + 1 + 1, 1, none⟩) (Nat.le_refl _) _).setCell (p := ⟨w.heap.size + 1 + 1, 2, none⟩) (Nat.le_refl _) _).setCell (p := ⟨w.heap.size + 1 + 1, 3, none⟩) (Nat.le_refl _) _).cell (p := ⟨b, o, none⟩) h⟩)) (fun hHeld => ?_)
        clear hK K
        (try simp only [Act.put, List.setIfInBounds_toArray, List.set_cons_zero, List.set_cons_succ])
        refine wpAnyH_take (i := 8) (oi := ⟨some 5, _, _, _, _, _⟩) (v := ?_) rfl (by kernel_rfl) (by kernel_rfl) (by kernel_rfl) (fun _ _ _ h => h) (Or.inl ⟨by rfl, ?_⟩) (by assumption) ?_
        rotate_left
        · ((intro w hSw); (try dsimp only at hSw); go_simp; (try with_reducible rfl))
        (try simp only [Act.put, List.setIfInBounds_toArray, List.set_cons_zero, List.set_cons_succ])
        refine wpAnyH_done (by kernel_rfl) ?_ _
        go_wp2_with fail
        have HD := hide ((((HRY.out.set_ 0 (.int .i64 1)).set_ 1 (.int .i64 q)).set_ 2 (.bool false)).set_ 3 (.string ⟨#[]⟩))
        obtain ⟨t0, t1, t2, t3⟩ := At.z4 HD.out.at0
        refine bodyPost_ret (v := .tuple #[.agg #[.int .i64 1, .int .i64 q, .bool false, .string ⟨#[]⟩], .int .i64 0]) (by simp [results, Tryd.results45, go_sem, t0, t1, t2, t3]) rfl ⟨by rw [hE.out]; rfl, Step.of⟩
      · have h1b : (f.trans == 1) = false := by simpa using h1
        by_cases hk1 : kindV v = 1
        · have hkb : (kindV v == 1) = true := by rw [hk1]; rfl
          have hE : Hid (T = (⟨1, floorT (clean v).i f.param, false, .empty⟩, 0)) := by show _ = _; rw [← HT.out]; exact applyR_int HP.out HN.out h1 hk1
          have CO := hide (fun w' => pfloor_any (clean v).i f.param w' hb1 hb2 hci1 hci2)
          generalize floorT (clean v).i f.param = q at CO hE
          have HK := hide hk1
          clear h1 hsame hk1
          go_upto_region 9 with (fail)
          refine wp_region_held_drew (S := (fun w' => Step w w' ∧ (∀ b o, b < w.heap.size + 1 + 1 → w'.cell? ⟨b, o, none⟩ = X.cell? ⟨b, o, none⟩))) (by kernel_rfl) (by (try dsimp only); (first | exact ⟨hS1, hS2⟩ | exact ⟨Step.of, fun b o h => ((fut X _).mono LE2.out).cell (p := ⟨b, o, none⟩) h⟩)) (fun hHeld => ?_)
          refine wpAnyH_take (i := 0) (oi := ⟨some 40, _, _, _, _, _⟩) (v := ?_) rfl (by kernel_rfl) (by kernel_rfl) (by kernel_rfl) (fun _ _ _ h => h) (Or.inl ⟨by rfl, ?_⟩) (by assumption) ?_
          rotate_left
          · ((intro w hSw); (try dsimp only at hSw); go_simp; (try with_reducible rfl))
          (try simp only [Act.put, List.setIfInBounds_toArray, List.set_cons_zero, List.set_cons_succ])
          refine wpAnyH_take (i := 2) (oi := ⟨some 42, _, _, _, _, _⟩) (v := ?_) rfl (by kernel_rfl) (by kernel_rfl) (by kernel_rfl) (fun _ _ _ h => h) (Or.inl ⟨by rfl, ?_⟩) (by assumption) ?_
          rotate_left
          · ((intro w hSw); (try dsimp only at hSw); go_simp; (try with_reducible rfl))
          (try simp only [Act.put, List.setIfInBounds_toArray, List.set_cons_zero, List.set_cons_succ])
          refine wpAnyH_take (i := 4) (oi := ⟨some 44, _, _, _, _, _⟩) (v := ?_) rfl (by kernel_rfl) (by kernel_rfl) (by kernel_rfl) (fun _ _ _ h => h) (Or.inl ⟨by rfl, ?_⟩) (by assumption) ?_
          rotate_left
          · ((intro w hSw); (try dsimp only at hSw); go_simp; (try with_reducible rfl))
          (try simp only [Act.put, List.setIfInBounds_toArray, List.set_cons_zero, List.set_cons_succ])
          refine wpAnyH_take (i := 1) (oi := ⟨some 41, _, _, _, _, _⟩) (v := ?_) rfl (by kernel_rfl) (by kernel_rfl) (by kernel_rfl) (fun _ _ _ h => h) (Or.inl ⟨by rfl, ?_⟩) (by assumption) ?_
          rotate_left
          · ((intro w hSw); (try dsimp only at hSw); go_simp; (try with_reducible rfl))
          (try simp only [Act.put, List.setIfInBounds_toArray, List.set_cons_zero, List.set_cons_succ])
          refine wpAnyH_take (i := 3) (oi := ⟨some 43, _, _, _, _, _⟩) (v := ?_) rfl (by kernel_rfl) (by kernel_rfl) (by kernel_rfl) (fun _ _ _ h => h) (Or.inl ⟨by rfl, ?_⟩) (by assumption) ?_
          rotate_left
          · ((intro w hSw); (try dsimp only at hSw); go_simp; (try with_reducible rfl))
          (try simp only [Act.put, List.setIfInBounds_toArray, List.set_cons_zero, List.set_cons_succ])
          refine wpAnyH_take (i := 5) (oi := ⟨some 45, _, _, _, _, _⟩) (v := ?_) rfl (by kernel_rfl) (by kernel_rfl) (by kernel_rfl) (fun _ _ _ h => h) (Or.inl ⟨by rfl, ?_⟩) (by assumption) ?_
          rotate_left
          · ((intro w hSw); (try dsimp only at hSw); go_simp; (try with_reducible rfl))
          (try simp only [Act.put, List.setIfInBounds_toArray, List.set_cons_zero, List.set_cons_succ])
          refine wpAnyH_ready (rs := [6]) (by kernel_rfl) (by simp) ?_
          refine AllReadyH.cons (o := ⟨some 46, _, _, _, _, _⟩) rfl (fun K hK => ?_) AllReadyH.nil
          obtain ⟨hS1, hS2⟩ := hHeld
          go_simp
          (go_at_call 85; (with_reducible refine (CO.out _).mono ?_); rintro e w5 ⟨rfl, hw5⟩; have br := HRX.out.fut (w' := w5); clear r0 r1 r2 r3 fr lr; obtain ⟨r0, r1, r2, r3⟩ := At.z4 br.at0; have fr := br.free; have lr := br.lt; have HRY := hide br; clear br)
          refine hK.out _ _ (by (try dsimp only); (first | exact ⟨hS1, hS2⟩ | exact ⟨Step.of, fun b o h => ((fut X _).mono LE2.out).cell (p := ⟨b, o, none⟩) h⟩)) (fun hHeld => ?_)
          clear hK K
          (try simp only [Act.put, List.setIfInBounds_toArray, List.set_cons_zero, List.set_cons_succ])
          refine wpAnyH_take (i := 7) (oi := ⟨some 47, _, _, _, _, _⟩) (v := ?_) rfl (by kernel_rfl) (by kernel_rfl) (by kernel_rfl) (fun _ _ _ h => h) (Or.inl ⟨by rfl, ?_⟩) (by assumption) ?_
          rotate_left
          · ((intro w hSw); (try dsimp only at hSw); go_simp; (try with_reducible rfl))
          (try simp only [Act.put, List.setIfInBounds_toArray, List.set_cons_zero, List.set_cons_succ])
          refine wpAnyH_ready (rs := [8]) (by kernel_rfl) (by simp) ?_
          refine AllReadyH.cons (o := ⟨none, _, _, _, _, _⟩) rfl (fun K hK => ?_) AllReadyH.nil
          go_simp
          refine hK.out _ _ (by (try dsimp only); (exact ⟨Step.of, fun b o h => ((((((fut X w5).mono LE2.out).setCell (p := ⟨w.heap.size + 1 + 1, 0, none⟩) (Nat.le_refl _) _).setCell (p := ⟨w.heap.size + 1 + 1, 1, none⟩) (Nat.le_refl _) _).setCell (p := ⟨w.heap.size + 1 + 1, 2, none⟩) (Nat.le_refl _) _).setCell (p := ⟨w.heap.size + 1 + 1, 3, none⟩) (Nat.le_refl _) _).cell (p := ⟨b, o, none⟩) h⟩)) (fun hHeld => ?_)
          clear hK K
          (try simp only [Act.put, List.setIfInBounds_toArray, List.set_cons_zero, List.set_cons_succ])
          refine wpAnyH_take (i := 9) (oi := ⟨some 5, _, _, _, _, _⟩) (v := ?_) rfl (by kernel_rfl) (by kernel_rfl) (by kernel_rfl) (fun _ _ _ h => h) (Or.inl ⟨by rfl, ?_⟩) (by assumption) ?_
          rotate_left
          · ((intro w hSw); (try dsimp only at hSw); go_simp; (try with_reducible rfl))
          (try simp only [Act.put, List.setIfInBounds_toArray, List.set_cons_zero, List.set_cons_succ])
          refine wpAnyH_done (by kernel_rfl) ?_ _
          go_wp2_with fail
          have HD := hide ((((HRY.out.set_ 0 (.int .i64 (kindV v))).set_ 1 (.int .i64 q)).set_ 2 (.bool false)).set_ 3 (.string ⟨#[]⟩))
          obtain ⟨t0, t1, t2, t3⟩ := At.z4 HD.out.at0
          refine bodyPost_ret (v := .tuple #[.agg #[.int .i64 (kindV v), .int .i64 q, .bool false, .string ⟨#[]⟩], .int .i64 0]) (by simp [results, Tryd.results45, go_sem, t0, t1, t2, t3]) rfl ⟨by rw [HK.out, hE.out]; rfl, Step.of⟩
        · have hkb : (kindV v == 1) = false := by simpa using hk1
          by_cases hk3 : kindV v = 3
          · have hkc : (kindV v == 3) = true := by rw [hk3]; rfl
            have hE : Hid (T = (⟨3, 0, false, firstT (clean v).s f.param⟩, 0)) := by show _ = _; rw [← HT.out]; exact applyR_text HP.out HN.out h1 hk3
            have CO := hide (fun w' => pfirst_any (clean v).s f.param w' hb1 hb2 hcs)
            generalize firstT (clean v).s f.param = q at CO hE
            have HK := hide hk3
            clear h1 hsame hk1 hk3
            go_upto_region 11 with (fail)
            refine wp_region_held_drew (S := (fun w' => Step w w' ∧ (∀ b o, b < w.heap.size + 1 + 1 → w'.cell? ⟨b, o, none⟩ = X.cell? ⟨b, o, none⟩))) (by kernel_rfl) (by (try dsimp only); (first | exact ⟨hS1, hS2⟩ | exact ⟨Step.of, fun b o h => ((fut X _).mono LE2.out).cell (p := ⟨b, o, none⟩) h⟩)) (fun hHeld => ?_)
            refine wpAnyH_take (i := 0) (oi := ⟨some 52, _, _, _, _, _⟩) (v := ?_) rfl (by kernel_rfl) (by kernel_rfl) (by kernel_rfl) (fun _ _ _ h => h) (Or.inl ⟨by rfl, ?_⟩) (by assumption) ?_
            rotate_left
            · ((intro w hSw); (try dsimp only at hSw); go_simp; (try with_reducible rfl))
            (try simp only [Act.put, List.setIfInBounds_toArray, List.set_cons_zero, List.set_cons_succ])
            refine wpAnyH_take (i := 2) (oi := ⟨some 54, _, _, _, _, _⟩) (v := ?_) rfl (by kernel_rfl) (by kernel_rfl) (by kernel_rfl) (fun _ _ _ h => h) (Or.inl ⟨by rfl, ?_⟩) (by assumption) ?_
            rotate_left
            · ((intro w hSw); (try dsimp only at hSw); go_simp; (try with_reducible rfl))
            (try simp only [Act.put, List.setIfInBounds_toArray, List.set_cons_zero, List.set_cons_succ])
            refine wpAnyH_take (i := 4) (oi := ⟨some 56, _, _, _, _, _⟩) (v := ?_) rfl (by kernel_rfl) (by kernel_rfl) (by kernel_rfl) (fun _ _ _ h => h) (Or.inl ⟨by rfl, ?_⟩) (by assumption) ?_
            rotate_left
            · ((intro w hSw); (try dsimp only at hSw); go_simp; (try with_reducible rfl))
            (try simp only [Act.put, List.setIfInBounds_toArray, List.set_cons_zero, List.set_cons_succ])
            refine wpAnyH_take (i := 1) (oi := ⟨some 53, _, _, _, _, _⟩) (v := ?_) rfl (by kernel_rfl) (by kernel_rfl) (by kernel_rfl) (fun _ _ _ h => h) (Or.inl ⟨by rfl, ?_⟩) (by assumption) ?_
            rotate_left
            · ((intro w hSw); (try dsimp only at hSw); go_simp; (try with_reducible rfl))
            (try simp only [Act.put, List.setIfInBounds_toArray, List.set_cons_zero, List.set_cons_succ])
            refine wpAnyH_take (i := 3) (oi := ⟨some 55, _, _, _, _, _⟩) (v := ?_) rfl (by kernel_rfl) (by kernel_rfl) (by kernel_rfl) (fun _ _ _ h => h) (Or.inl ⟨by rfl, ?_⟩) (by assumption) ?_
            rotate_left
            · ((intro w hSw); (try dsimp only at hSw); go_simp; (try with_reducible rfl))
            (try simp only [Act.put, List.setIfInBounds_toArray, List.set_cons_zero, List.set_cons_succ])
            refine wpAnyH_take (i := 5) (oi := ⟨some 57, _, _, _, _, _⟩) (v := ?_) rfl (by kernel_rfl) (by kernel_rfl) (by kernel_rfl) (fun _ _ _ h => h) (Or.inl ⟨by rfl, ?_⟩) (by assumption) ?_
            rotate_left
            · ((intro w hSw); (try dsimp only at hSw); go_simp; (try with_reducible rfl))
            (try simp only [Act.put, List.setIfInBounds_toArray, List.set_cons_zero, List.set_cons_succ])
            refine wpAnyH_ready (rs := [6]) (by kernel_rfl) (by simp) ?_
            refine AllReadyH.cons (o := ⟨some 58, _, _, _, _, _⟩) rfl (fun K hK => ?_) AllReadyH.nil
            obtain ⟨hS1, hS2⟩ := hHeld
            go_simp
            (go_at_call 86; (with_reducible refine (CO.out _).mono ?_); rintro e w5 ⟨rfl, hw5⟩; have br := HRX.out.fut (w' := w5); clear r0 r1 r2 r3 fr lr; obtain ⟨r0, r1, r2, r3⟩ := At.z4 br.at0; have fr := br.free; have lr := br.lt; have HRY := hide br; clear br)
            refine hK.out _ _ (by (try dsimp only); (first | exact ⟨hS1, hS2⟩ | exact ⟨Step.of, fun b o h => ((fut X _).mono LE2.out).cell (p := ⟨b, o, none⟩) h⟩)) (fun hHeld => ?_)
            clear hK K
            (try simp only [Act.put, List.setIfInBounds_toArray, List.set_cons_zero, List.set_cons_succ])
            refine wpAnyH_take (i := 7) (oi := ⟨some 59, _, _, _, _, _⟩) (v := ?_) rfl (by kernel_rfl) (by kernel_rfl) (by kernel_rfl) (fun _ _ _ h => h) (Or.inl ⟨by rfl, ?_⟩) (by assumption) ?_
            rotate_left
            · ((intro w hSw); (try dsimp only at hSw); go_simp; (try with_reducible rfl))
            (try simp only [Act.put, List.setIfInBounds_toArray, List.set_cons_zero, List.set_cons_succ])
            refine wpAnyH_ready (rs := [8]) (by kernel_rfl) (by simp) ?_
            refine AllReadyH.cons (o := ⟨none, _, _, _, _, _⟩) rfl (fun K hK => ?_) AllReadyH.nil
            go_simp
            refine hK.out _ _ (by (try dsimp only); (exact ⟨Step.of, fun b o h => ((((((fut X w5).mono LE2.out).setCell (p := ⟨w.heap.size + 1 + 1, 0, none⟩) (Nat.le_refl _) _).setCell (p := ⟨w.heap.size + 1 + 1, 1, none⟩) (Nat.le_refl _) _).setCell (p := ⟨w.heap.size + 1 + 1, 2, none⟩) (Nat.le_refl _) _).setCell (p := ⟨w.heap.size + 1 + 1, 3, none⟩) (Nat.le_refl _) _).cell (p := ⟨b, o, none⟩) h⟩)) (fun hHeld => ?_)
            clear hK K
            (try simp only [Act.put, List.setIfInBounds_toArray, List.set_cons_zero, List.set_cons_succ])
            refine wpAnyH_take (i := 9) (oi := ⟨some 5, _, _, _, _, _⟩) (v := ?_) rfl (by kernel_rfl) (by kernel_rfl) (by kernel_rfl) (fun _ _ _ h => h) (Or.inl ⟨by rfl, ?_⟩) (by assumption) ?_
            rotate_left
            · ((intro w hSw); (try dsimp only at hSw); go_simp; (try with_reducible rfl))
            (try simp only [Act.put, List.setIfInBounds_toArray, List.set_cons_zero, List.set_cons_succ])
            refine wpAnyH_done (by kernel_rfl) ?_ _
            go_wp2_with fail
            have HD := hide ((((HRY.out.set_ 0 (.int .i64 (kindV v))).set_ 1 (.int .i64 0)).set_ 2 (.bool false)).set_ 3 (.string q))
            obtain ⟨t0, t1, t2, t3⟩ := At.z4 HD.out.at0
            refine bodyPost_ret (v := .tuple #[.agg #[.int .i64 (kindV v), .int .i64 0, .bool false, .string q], .int .i64 0]) (by simp [results, Tryd.results45, go_sem, t0, t1, t2, t3]) rfl ⟨by rw [HK.out, hE.out]; rfl, Step.of⟩
          · have hkc : (kindV v == 3) = false := by simpa using hk3
            have hE : Hid (T = (Val.zero, 1300)) := by show _ = _; rw [← HT.out]; exact applyR_bool HP.out HN.out h1 (by omega)
            have HD := hide ((((HRX.out.set_ 0 (.int .i64 0)).set_ 1 (.int .i64 0)).set_ 2 (.bool false)).set_ 3 (.string ⟨#[]⟩))
            obtain ⟨t0, t1, t2, t3⟩ := At.z4 HD.out.at0
            clear h1 hsame hk1 hk3
            go_wp2_with fail
            refine bodyPost_ret (v := .tuple #[.agg #[.int .i64 0, .int .i64 0, .bool false, .string ⟨#[]⟩], .int .i64 1300]) (by simp [results, Tryd.results45, go_sem, t0, t1, t2, t3]) rfl ⟨by rw [hE.out]; rfl, Step.of⟩
set_option maxRecDepth 100000 in
set_option maxHeartbeats 8000000 in
theorem rapply_any (f : Fld) (v : Val) (w : World) (hv : v.s.size ≤ 9223372036854775000) (hi1 : -9223372036854775808 ≤ v.i) (hi2 : v.i ≤ 9223372036854775807) :
    Calls Tryd.prog 46 #[.agg #[.int .i64 f.source, .int .i64 f.trans, .int .i64 f.param], .agg #[.int .i64 v.kind, .int .i64 v.i, .bool v.b, .string v.s]] w fun e w' => e = .returned (.tuple #[(applyR f v).1.val, .int .i64 (applyR f v).2]) ∧ Step w w' := by
  obtain ⟨T, hT⟩ : ∃ T, applyR f v = T := ⟨_, rfl⟩
  have HT := hide hT
  rw [hT]
  clear hT
  obtain ⟨W, hW⟩ : ∃ W, W = ((w.alloc (.cells #[.int .i64 f.source, .int .i64 f.trans, .int .i64 f.param] 78)).alloc (.cells #[.int .i64 v.kind, .int .i64 v.i, .bool v.b, .string v.s] 73)).alloc (.cells #[.int .i64 0, .int .i64 0, .bool false, .string ⟨#[]⟩] 73) := ⟨_, rfl⟩
  have SW : Step w W := by rw [hW]; exact Step.of
  have HFB : Hid (Blk W w.heap.size 78 [.int .i64 f.source, .int .i64 f.trans, .int .i64 f.param]) := by rw [hW]; exact ((Blk.new w [.int .i64 f.source, .int .i64 f.trans, .int .i64 f.param] 78).alloc _).alloc _
  have HVB : Hid (Blk W (w.heap.size + 1) 73 [.int .i64 v.kind, .int .i64 v.i, .bool v.b, .string v.s]) := by rw [hW]; exact (Blk.new_at (by simp) [.int .i64 v.kind, .int .i64 v.i, .bool v.b, .string v.s] 73).alloc _
  have HRB : Hid (Blk W (w.heap.size + 1 + 1) 73 [.int .i64 0, .int .i64 0, .bool false, .string ⟨#[]⟩]) := by rw [hW]; exact Blk.new_at (by simp) [.int .i64 0, .int .i64 0, .bool false, .string ⟨#[]⟩] 73
  have HW := hide hW
  have hzW := SW.size
  clear hW
  have PP := hide (fieldMay_any f)
  cases hp : paramB f with
  | false =>
    have hE : Hid (T = (Val.zero, 1300)) := by show _ = _; rw [← HT.out]; exact applyR_bad hp
    rw [hp] at PP
    clear hp
    go_enter Tryd.func46, Tryd.ntmps46
    go_wp2_with (go_at_call 87; (with_reducible refine (PP.out _).mono ?_); rintro e w1 ⟨rfl, hs1⟩; rw [← HW.out] at hs1; have br := HRB.out.fut (w' := w1); obtain ⟨r0, r1, r2, r3⟩ := At.z4 br.at0; have fr := br.free; have lr := br.lt; have HRY := hide br; clear br)
    have HD := hide ((((HRY.out.set_ 0 (.int .i64 0)).set_ 1 (.int .i64 0)).set_ 2 (.bool false)).set_ 3 (.string ⟨#[]⟩))
    obtain ⟨t0, t1, t2, t3⟩ := At.z4 HD.out.at0
    refine bodyPost_ret (v := .tuple #[.agg #[.int .i64 0, .int .i64 0, .bool false, .string ⟨#[]⟩], .int .i64 1300]) (by simp [results, Tryd.results46, go_sem, t0, t1, t2, t3]) rfl ⟨by rw [hE.out]; rfl, Step.of⟩
  | true =>
    have HP := hide hp
    rw [hp] at PP
    clear hp
    have pv := vclean_any v
    rw [clean_ag] at pv
    unfold Val.val at pv
    have PV := hide pv
    clear pv
    obtain ⟨k0, k3⟩ := kindV_bd v
    have hcs : (clean v).s.size ≤ 9223372036854775000 := by
      unfold clean
      split
      · exact Nat.zero_le _
      split
      · exact Nat.zero_le _
      split
      · exact hv
      · exact Nat.zero_le _
    have hci : -9223372036854775808 ≤ (clean v).i ∧ (clean v).i ≤ 9223372036854775807 := by
      unfold clean
      split
      · exact ⟨hi1, hi2⟩
      split
      · exact ⟨show (-9223372036854775808 : Int) ≤ 0 by decide, show (0 : Int) ≤ 9223372036854775807 by decide⟩
      split
      · exact ⟨show (-9223372036854775808 : Int) ≤ 0 by decide, show (0 : Int) ≤ 9223372036854775807 by decide⟩
      · exact ⟨show (-9223372036854775808 : Int) ≤ 0 by decide, show (0 : Int) ≤ 9223372036854775807 by decide⟩
    obtain ⟨hci1, hci2⟩ := hci
    have pb := fun w' => rbytes_any (clean v) w'
    rw [clean_kind] at pb
    have PB := hide pb
    clear pb
    have HR0 := hide (fun h2 : kindV v = 0 ∨ f.trans = 0 => applyR_same (v := v) HP.out h2)
    have HCV := hide (clean_ag v)
    go_enter Tryd.func46, Tryd.ntmps46
    go_upto_region 4 with (first
      | (go_at_call 87; (with_reducible refine (PP.out _).mono ?_); rintro e w1 ⟨rfl, hs1⟩; rw [← HW.out] at hs1; have bv := HVB.out.fut (w' := w1); obtain ⟨x0, x1, x2, x3⟩ := At.z4 bv.at0; have lx := bv.lt; clear bv)
      | (go_at_call 44; (with_reducible refine (PV.out _).mono ?_); rintro e w3 ⟨rfl, hs3⟩; clear x0 x1 x2 x3 lx; have bv := HVB.out.fut (w' := w3); obtain ⟨x0, x1, x2, x3⟩ := At.z4 bv.at0; have fx := bv.free; have lx := bv.lt; have HV3 := hide bv; clear bv))
    obtain ⟨X, hX⟩ : ∃ X, X = (((w3.setCell ⟨w.heap.size + 1, 0, none⟩ (.int .i64 (kindV v))).setCell ⟨w.heap.size + 1, 1, none⟩ (.int .i64 (clean v).i)).setCell ⟨w.heap.size + 1, 2, none⟩ (.bool (clean v).b)).setCell ⟨w.heap.size + 1, 3, none⟩ (.string (clean v).s) := ⟨_, rfl⟩
    have HVX : Hid (Blk X (w.heap.size + 1) 73 [.int .i64 (kindV v), .int .i64 (clean v).i, .bool (clean v).b, .string (clean v).s]) := by rw [hX]; exact (((HV3.out.set_ 0 (.int .i64 (kindV v))).set_ 1 (.int .i64 (clean v).i)).set_ 2 (.bool (clean v).b)).set_ 3 (.string (clean v).s)
    have HFX : Hid (Blk X w.heap.size 78 [.int .i64 f.source, .int .i64 f.trans, .int .i64 f.param]) := by rw [hX]; exact ((((HFB.out.fut (w' := w3)).far (by simp) _).far (by simp) _).far (by simp) _).far (by simp) _
    have HRX : Hid (Blk X (w.heap.size + 1 + 1) 73 [.int .i64 0, .int .i64 0, .bool false, .string ⟨#[]⟩]) := by rw [hX]; exact ((((HRB.out.fut (w' := w3)).far (by simp) _).far (by simp) _).far (by simp) _).far (by simp) _
    have SX : Step w X := by rw [hX]; exact Step.of
    rw [← hX]
    clear hX x0 x1 x2 x3 fx lx hs3 hs1
    have hzX := SX.size
    obtain ⟨x0, x1, x2, x3⟩ := At.z4 HVX.out.at0; have lx := HVX.out.lt
    obtain ⟨y0, y1, y2⟩ := At.z3 HFX.out.at0; have ly := HFX.out.lt
    obtain ⟨r0, r1, r2, r3⟩ := At.z4 HRX.out.at0; have fr := HRX.out.free; have lr := HRX.out.lt
    have LE2 : Hid (w.heap.size + 1 + 1 ≤ X.heap.size) := by show _ ≤ _; omega
    by_cases hz0 : kindV v = 0
    · have hE : Hid (T = (Val.zero, 0)) := by
        show _ = _
        rw [← HT.out, HR0.out (.inl hz0)]
        have : clean v = Val.zero := by
          unfold kindV at hz0
          have h4 : ¬ (v.kind = 1 ∨ v.kind = 2 ∨ v.kind = 3) := fun h => by rw [if_pos h] at hz0; omega
          unfold clean
          rw [if_neg (by omega), if_neg (by omega), if_neg (by omega)]
        rw [this]
      have hg : (kindV v == 0) = true := by rw [hz0]; rfl
      clear hz0
      have HD := hide ((((HRX.out.set_ 0 (.int .i64 0)).set_ 1 (.int .i64 0)).set_ 2 (.bool false)).set_ 3 (.string ⟨#[]⟩))
      obtain ⟨t0, t1, t2, t3⟩ := At.z4 HD.out.at0
      go_wp2_with fail
      refine bodyPost_ret (v := .tuple #[.agg #[.int .i64 0, .int .i64 0, .bool false, .string ⟨#[]⟩], .int .i64 0]) (by simp [results, Tryd.results46, go_sem, t0, t1, t2, t3]) rfl ⟨by rw [hE.out]; rfl, Step.of⟩
    have hg0 : (kindV v == 0) = false := by simpa using hz0
    by_cases hsame : f.trans = 0
    · have hE : Hid (T = (clean v, 0)) := by show _ = _; rw [← HT.out]; exact HR0.out (.inr hsame)
      have hg : (f.trans == 0) = true := by rw [hsame]; rfl
      clear hsame hz0
      have HD := hide ((((HRX.out.set_ 0 (.int .i64 (kindV v))).set_ 1 (.int .i64 (clean v).i)).set_ 2 (.bool (clean v).b)).set_ 3 (.string (clean v).s))
      obtain ⟨t0, t1, t2, t3⟩ := At.z4 HD.out.at0
      go_wp2_with fail
      refine bodyPost_ret (v := .tuple #[.agg #[.int .i64 (kindV v), .int .i64 (clean v).i, .bool (clean v).b, .string (clean v).s], .int .i64 0]) (by simp [results, Tryd.results46, go_sem, t0, t1, t2, t3]) rfl ⟨by rw [hE.out]; exact congrArg (fun x => Ending.returned (.tuple #[x, .int .i64 0])) HCV.out.symm, Step.of⟩
    · have hg1 : (f.trans == 0) = false := by simpa using hsame
      have hb := param_bd HP.out (by omega)
      obtain ⟨hb1, hb2⟩ := hb
      have HN : Hid (¬ (kindV v = 0 ∨ f.trans = 0)) := hide (by omega)
      have hpn : ¬ f.param = 0 := by omega
      by_cases h1 : f.trans = 1
      · have h1b : (f.trans == 1) = true := by simpa using h1
        have hE : Hid (T = (⟨1, (crcT (bytesT (clean v)) : Int) % f.param, false, .empty⟩, 0)) := by show _ = _; rw [← HT.out]; exact applyR_bucket HP.out HN.out h1
        have CO := hide (fun w' hb => rcrc_any (bytesT (clean v)) w' hb)
        have hbz : (bytesT (clean v)).size ≤ 9223372036854775807 := by
          unfold bytesT
          split
          · exact Nat.le_trans (by simp [be8, ByteArray.size]) (show 8 ≤ 9223372036854775807 by decide)
          split
          · split <;> exact Nat.le_trans (Nat.le_refl 1) (by decide)
          · omega
        have CO := hide (fun w' => CO.out w' hbz)
        have hcl := crcT_lt (bytesT (clean v))
        generalize crcT (bytesT (clean v)) = z at CO hE hcl
        have hmod : ((z : Nat) : Int).tmod f.param = (z : Int) % f.param := Int.tmod_eq_emod_of_nonneg (by omega)
        have hz1 := Int.emod_nonneg (z : Int) (show f.param ≠ 0 by omega)
        have hz2 := Int.emod_lt_of_pos (z : Int) (show 0 < f.param by omega)
        obtain ⟨q, hq⟩ : ∃ q, (z : Int) % f.param = q := ⟨_, rfl⟩
        rw [hq] at hmod hE hz1 hz2
        clear h1 hsame hz0 hq
        go_upto_region 9 with (fail)
        refine wp_region_held_drew (S := (fun w' => Step w w' ∧ (∀ b o, b < w.heap.size + 1 + 1 → w'.cell? ⟨b, o, none⟩ = X.cell? ⟨b, o, none⟩))) (by kernel_rfl) (by (try dsimp only); (first | exact ⟨hS1, hS2⟩ | exact ⟨Step.of, fun b o h => ((fut X _).mono LE2.out).cell (p := ⟨b, o, none⟩) h⟩)) (fun hHeld => ?_)
        refine wpAnyH_take (i := 0) (oi := ⟨some 27, _, _, _, _, _⟩) (v := ?_) rfl (by kernel_rfl) (by kernel_rfl) (by kernel_rfl) (fun _ _ _ h => h) (Or.inl ⟨by rfl, ?_⟩) (by assumption) ?_
        rotate_left
        · ((intro w hSw); (try dsimp only at hSw); go_simp; (try with_reducible rfl))
        (try simp only [Act.put, List.setIfInBounds_toArray, List.set_cons_zero, List.set_cons_succ])
        refine wpAnyH_take (i := 3) (oi := ⟨some 30, _, _, _, _, _⟩) (v := ?_) rfl (by kernel_rfl) (by kernel_rfl) (by kernel_rfl) (fun _ _ _ h => h) (Or.inl ⟨by rfl, ?_⟩) (by assumption) ?_
        rotate_left
        · ((intro w hSw); (try dsimp only at hSw); go_simp; (try with_reducible rfl))
        (try simp only [Act.put, List.setIfInBounds_toArray, List.set_cons_zero, List.set_cons_succ])
        refine wpAnyH_take (i := 4) (oi := ⟨some 31, _, _, _, _, _⟩) (v := ?_) rfl (by kernel_rfl) (by kernel_rfl) (by kernel_rfl) (fun _ _ _ h => h) (Or.inl ⟨by rfl, ?_⟩) (by assumption) ?_
        rotate_left
        · ((intro w hSw); (try dsimp only at hSw); go_simp; (try with_reducible rfl))
        (try simp only [Act.put, List.setIfInBounds_toArray, List.set_cons_zero, List.set_cons_succ])
        refine wpAnyH_ready (rs := [1]) (by kernel_rfl) (by simp) ?_
        refine AllReadyH.cons (o := ⟨some 28, _, _, _, _, _⟩) rfl (fun K hK => ?_) AllReadyH.nil
        obtain ⟨hS1, hS2⟩ := hHeld
        go_simp
        (go_at_call 89; (with_reducible refine (PB.out _).mono ?_); rintro e w4 ⟨rfl, hw4⟩; have br := HRX.out.fut (w' := w4); clear r0 r1 r2 r3 fr lr; obtain ⟨r0, r1, r2, r3⟩ := At.z4 br.at0; have fr := br.free; have lr := br.lt; have HRY := hide br; clear br)
        refine hK.out _ _ (by (try dsimp only); (first | exact ⟨hS1, hS2⟩ | exact ⟨Step.of, fun b o h => ((fut X _).mono LE2.out).cell (p := ⟨b, o, none⟩) h⟩)) (fun hHeld => ?_)
        clear hK K
        (try simp only [Act.put, List.setIfInBounds_toArray, List.set_cons_zero, List.set_cons_succ])
        refine wpAnyH_ready (rs := [2]) (by kernel_rfl) (by simp) ?_
        refine AllReadyH.cons (o := ⟨some 29, _, _, _, _, _⟩) rfl (fun K hK => ?_) AllReadyH.nil
        obtain ⟨hS1, hS2⟩ := hHeld
        go_simp
        (go_at_call 88; (with_reducible refine (CO.out _).mono ?_); rintro e w5 ⟨rfl, hw5⟩; have br := HRX.out.fut (w' := w5); clear r0 r1 r2 r3 fr lr HRY; obtain ⟨r0, r1, r2, r3⟩ := At.z4 br.at0; have fr := br.free; have lr := br.lt; have HRY := hide br; clear br)
        refine hK.out _ _ (by (try dsimp only); (first | exact ⟨hS1, hS2⟩ | exact ⟨Step.of, fun b o h => ((fut X _).mono LE2.out).cell (p := ⟨b, o, none⟩) h⟩)) (fun hHeld => ?_)
        clear hK K
        (try simp only [Act.put, List.setIfInBounds_toArray, List.set_cons_zero, List.set_cons_succ])
        refine wpAnyH_take (i := 5) (oi := ⟨some 32, _, _, _, _, _⟩) (v := ?_) rfl (by kernel_rfl) (by kernel_rfl) (by kernel_rfl) (fun _ _ _ h => h) (Or.inl ⟨by rfl, ?_⟩) (by assumption) ?_
        rotate_left
        · ((intro w hSw); (try dsimp only at hSw); go_simp; (try with_reducible rfl))
        (try simp only [Act.put, List.setIfInBounds_toArray, List.set_cons_zero, List.set_cons_succ])
        refine wpAnyH_take (i := 6) (oi := ⟨some 33, _, _, _, _, _⟩) (v := ?_) rfl (by kernel_rfl) (by kernel_rfl) (by kernel_rfl) (fun _ _ _ h => h) (Or.inl ⟨by rfl, ?_⟩) (by assumption) ?_
        rotate_left
        · ((intro w hSw); (try dsimp only at hSw); go_simp; (try with_reducible rfl))
        (try simp only [Act.put, List.setIfInBounds_toArray, List.set_cons_zero, List.set_cons_succ])
        refine wpAnyH_ready (rs := [7]) (by kernel_rfl) (by simp) ?_
        refine AllReadyH.cons (o := ⟨none, _, _, _, _, _⟩) rfl (fun K hK => ?_) AllReadyH.nil
        go_simp
        refine hK.out _ _ (by (try dsimp only); (exact ⟨Step.of, fun b o h => ((((((fut X w5).mono LE2.out).setCell (p := ⟨w.heap.size + 1 + 1, 0, none⟩) (Nat.le_refl _) _).setCell (p := ⟨w.heap.size + 1 + 1, 1, none⟩) (Nat.le_refl _) _).setCell (p := ⟨w.heap.size + 1 + 1, 2, none⟩) (Nat.le_refl _) _).setCell (p := ⟨w.heap.size + 1 + 1, 3, none⟩) (Nat.le_refl _) _).cell (p := ⟨b, o, none⟩) h⟩)) (fun hHeld => ?_)
        clear hK K
        (try simp only [Act.put, List.setIfInBounds_toArray, List.set_cons_zero, List.set_cons_succ])
        refine wpAnyH_take (i := 8) (oi := ⟨some 5, _, _, _, _, _⟩) (v := ?_) rfl (by kernel_rfl) (by kernel_rfl) (by kernel_rfl) (fun _ _ _ h => h) (Or.inl ⟨by rfl, ?_⟩) (by assumption) ?_
        rotate_left
        · ((intro w hSw); (try dsimp only at hSw); go_simp; (try with_reducible rfl))
        (try simp only [Act.put, List.setIfInBounds_toArray, List.set_cons_zero, List.set_cons_succ])
        refine wpAnyH_done (by kernel_rfl) ?_ _
        go_wp2_with fail
        have HD := hide ((((HRY.out.set_ 0 (.int .i64 1)).set_ 1 (.int .i64 q)).set_ 2 (.bool false)).set_ 3 (.string ⟨#[]⟩))
        obtain ⟨t0, t1, t2, t3⟩ := At.z4 HD.out.at0
        refine bodyPost_ret (v := .tuple #[.agg #[.int .i64 1, .int .i64 q, .bool false, .string ⟨#[]⟩], .int .i64 0]) (by simp [results, Tryd.results46, go_sem, t0, t1, t2, t3]) rfl ⟨by rw [hE.out]; rfl, Step.of⟩
      · have h1b : (f.trans == 1) = false := by simpa using h1
        by_cases hk1 : kindV v = 1
        · have hkb : (kindV v == 1) = true := by rw [hk1]; rfl
          have hE : Hid (T = (⟨1, floorT (clean v).i f.param, false, .empty⟩, 0)) := by show _ = _; rw [← HT.out]; exact applyR_int HP.out HN.out h1 hk1
          have HM := hide (tmod_cases (clean v).i f.param hb1)
          have HE2 : Hid (0 ≤ (clean v).i % f.param ∧ (clean v).i % f.param < f.param) := ⟨Int.emod_nonneg _ (by omega), Int.emod_lt_of_pos _ (by omega)⟩
          clear h1 hsame hz0 hk1
          obtain ⟨r, hr⟩ : ∃ r, (clean v).i % f.param = r := ⟨_, rfl⟩
          have hfl : floorT (clean v).i f.param = if (clean v).i < -9223372036854775808 + r then -9223372036854775808 else (clean v).i - r := by rw [floorT, hr]
          rw [hr] at HM HE2
          rw [hfl] at hE
          obtain ⟨hr0, hr1⟩ := HE2.out
          clear hr hfl HE2
          rcases HM.out with ⟨hm1, hm2⟩ | ⟨hm1, hm2⟩
          · have hm : (clean v).i.tmod f.param = r := hm1
            have hneg : decide (r < 0) = false := by simp; omega
            clear HM hm1 hm2
            by_cases hc : (clean v).i < -9223372036854775808 + r
            · have HD := hide ((((HRX.out.set_ 0 (.int .i64 1)).set_ 1 (.int .i64 (-9223372036854775808))).set_ 2 (.bool false)).set_ 3 (.string ⟨#[]⟩))
              obtain ⟨t0, t1, t2, t3⟩ := At.z4 HD.out.at0
              rw [if_pos hc] at hE
              go_wp2_with fail
              refine bodyPost_ret (v := .tuple #[.agg #[.int .i64 1, .int .i64 (-9223372036854775808), .bool false, .string ⟨#[]⟩], .int .i64 0]) (by simp [results, Tryd.results46, go_sem, t0, t1, t2, t3]) rfl ⟨by rw [hE.out]; rfl, Step.of⟩
            · have HD := hide ((((HRX.out.set_ 0 (.int .i64 1)).set_ 1 (.int .i64 ((clean v).i - r))).set_ 2 (.bool false)).set_ 3 (.string ⟨#[]⟩))
              obtain ⟨t0, t1, t2, t3⟩ := At.z4 HD.out.at0
              rw [if_neg hc] at hE
              go_wp2_with fail
              refine bodyPost_ret (v := .tuple #[.agg #[.int .i64 1, .int .i64 ((clean v).i - r), .bool false, .string ⟨#[]⟩], .int .i64 0]) (by simp [results, Tryd.results46, go_sem, t0, t1, t2, t3]) rfl ⟨by rw [hE.out]; rfl, Step.of⟩
          · have hm : (clean v).i.tmod f.param = r - f.param := hm1
            have hneg : decide (r - f.param < 0) = true := by simp; omega
            clear HM hm1 hm2
            by_cases hc : (clean v).i < -9223372036854775808 + r
            · have HD := hide ((((HRX.out.set_ 0 (.int .i64 1)).set_ 1 (.int .i64 (-9223372036854775808))).set_ 2 (.bool false)).set_ 3 (.string ⟨#[]⟩))
              obtain ⟨t0, t1, t2, t3⟩ := At.z4 HD.out.at0
              rw [if_pos hc] at hE
              go_wp2_with fail
              refine bodyPost_ret (v := .tuple #[.agg #[.int .i64 1, .int .i64 (-9223372036854775808), .bool false, .string ⟨#[]⟩], .int .i64 0]) (by simp [results, Tryd.results46, go_sem, t0, t1, t2, t3]) rfl ⟨by rw [hE.out]; rfl, Step.of⟩
            · have HD := hide ((((HRX.out.set_ 0 (.int .i64 1)).set_ 1 (.int .i64 ((clean v).i - r))).set_ 2 (.bool false)).set_ 3 (.string ⟨#[]⟩))
              obtain ⟨t0, t1, t2, t3⟩ := At.z4 HD.out.at0
              rw [if_neg hc] at hE
              go_wp2_with fail
              refine bodyPost_ret (v := .tuple #[.agg #[.int .i64 1, .int .i64 ((clean v).i - r), .bool false, .string ⟨#[]⟩], .int .i64 0]) (by simp [results, Tryd.results46, go_sem, t0, t1, t2, t3]) rfl ⟨by rw [hE.out]; rfl, Step.of⟩
        · have hkb : (kindV v == 1) = false := by simpa using hk1
          by_cases hk3 : kindV v = 3
          · have hkc : (kindV v == 3) = true := by rw [hk3]; rfl
            have hE : Hid (T = (⟨3, 0, false, firstT (clean v).s f.param⟩, 0)) := by show _ = _; rw [← HT.out]; exact applyR_text HP.out HN.out h1 hk3
            have CO := hide (fun w' => rrunes_any (clean v).s f.param w' hb1 hb2 hcs)
            generalize firstT (clean v).s f.param = q at CO hE
            clear h1 hsame hz0 hk1 hk3
            go_wp2_with (go_at_call 90; (with_reducible refine (CO.out _).mono ?_); rintro e w5 ⟨rfl, hs5⟩; have br := HRX.out.fut (w' := w5); clear r0 r1 r2 r3 fr lr; obtain ⟨r0, r1, r2, r3⟩ := At.z4 br.at0; have fr := br.free; have lr := br.lt; have HRY := hide br; clear br)
            have HD := hide ((((HRY.out.set_ 0 (.int .i64 3)).set_ 1 (.int .i64 0)).set_ 2 (.bool false)).set_ 3 (.string q))
            obtain ⟨t0, t1, t2, t3⟩ := At.z4 HD.out.at0
            refine bodyPost_ret (v := .tuple #[.agg #[.int .i64 3, .int .i64 0, .bool false, .string q], .int .i64 0]) (by simp [results, Tryd.results46, go_sem, t0, t1, t2, t3]) rfl ⟨by rw [hE.out]; rfl, Step.of⟩
          · have hkc : (kindV v == 3) = false := by simpa using hk3
            have hE : Hid (T = (Val.zero, 1300)) := by show _ = _; rw [← HT.out]; exact applyR_bool HP.out HN.out h1 (by omega)
            have HD := hide ((((HRX.out.set_ 0 (.int .i64 0)).set_ 1 (.int .i64 0)).set_ 2 (.bool false)).set_ 3 (.string ⟨#[]⟩))
            obtain ⟨t0, t1, t2, t3⟩ := At.z4 HD.out.at0
            clear h1 hsame hz0 hk1 hk3
            go_wp2_with fail
            refine bodyPost_ret (v := .tuple #[.agg #[.int .i64 0, .int .i64 0, .bool false, .string ⟨#[]⟩], .int .i64 1300]) (by simp [results, Tryd.results46, go_sem, t0, t1, t2, t3]) rfl ⟨by rw [hE.out]; rfl, Step.of⟩
end Go.Proofs.YtfojdjmeefglcaaDoor
