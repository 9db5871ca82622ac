/-
  The document's plain, Cut and Build: that each answers, and how much it gives.
-/
import Derived.Test.YtinpnginjpfbpaaDoorVa
namespace Go.Proofs.YtinpnginjpfbpaaDoor
open Go.RowKit

theorem clean_s_le (v : Val) : (clean v).s.size = 0 ∨ (clean v).s.size = v.s.size := by
  unfold clean
  repeat' split
  all_goals first | exact .inl rfl | exact .inr rfl
set_option maxRecDepth 100000 in
set_option maxHeartbeats 4000000 in
theorem plainT_any (v : Val) (w : World) (hs : v.s.size ≤ 1000000) : Calls Tryd.prog 61 #[.agg #[.int .i64 v.kind, .int .i64 v.i, .bool v.b, .string v.s]] w (Txt (v.s.size + 10) w) := by
  have Z := fun w' => zig_any v.i w'
  have V := fun w' => varint_any (v.s.size : Int) w' (by omega) (by omega)
  unfold Txt at Z V ⊢
  have Z := hide Z; have V := hide V
  have HB := hide (Blk.new w [.int .i64 v.kind, .int .i64 v.i, .bool v.b, .string v.s] 57)
  obtain ⟨x0, x1, x2, x3⟩ := At.z4 HB.out.at0
  have lx := HB.out.lt
  by_cases h1 : v.kind = 1
  · go_enter Tryd.func61, Tryd.ntmps61
    go_wp2_with (go_at_call 73; (with_reducible refine (Z.out _).mono ?_); rintro e w1 ⟨b, rfl, hb, hs1⟩)
    go_ret
    exact ⟨b, rfl, by omega, Step.of⟩
  · by_cases h2 : v.kind = 2
    · cases hvb : v.b with
      | true =>
        rw [hvb] at x2
        go_enter Tryd.func61, Tryd.ntmps61
        go_wp2_with fail
        go_ret
        exact ⟨⟨#[1]⟩, rfl, by show 1 ≤ _; omega, Step.of⟩
      | false =>
        rw [hvb] at x2
        go_enter Tryd.func61, Tryd.ntmps61
        go_wp2_with fail
        go_ret
        exact ⟨⟨#[0]⟩, rfl, by show 1 ≤ _; omega, Step.of⟩
    · go_enter Tryd.func61, Tryd.ntmps61
      go_upto_region 8 with (fail)
      obtain ⟨X, hX⟩ : ∃ X, X = w.alloc (.cells #[.int .i64 v.kind, .int .i64 v.i, .bool v.b, .string v.s] 57) := ⟨_, rfl⟩
      have SX : Step w X := by rw [hX]; exact Step.of
      rw [← hX] at x0 x1 x2 x3 lx
      rw [← hX]
      clear hX HB
      refine wp_region_held_drew (S := (fun w' => Step X w' ∧ (∀ b o, b < X.heap.size → w'.cell? ⟨b, o, none⟩ = X.cell? ⟨b, o, none⟩))) (by kernel_rfl) (by (try dsimp only); (first | exact ⟨hS1, hS2⟩ | exact ⟨Step.of, (bcell (fut _ _)).1⟩)) (fun hHeld => ?_)
      refine wpAnyH_take (i := 0) (oi := ⟨some 14, _, _, _, _, _⟩) (v := ?_) rfl (by kernel_rfl) (by kernel_rfl) (by kernel_rfl) (fun _ _ _ h => h) (Or.inl ⟨by rfl, ?_⟩) (by assumption) ?_
      rotate_left
      · ((intro w hSw); (try dsimp only at hSw); go_simp; (try with_reducible rfl))
      (try simp only [Act.put, List.setIfInBounds_toArray, List.set_cons_zero, List.set_cons_succ])
      refine wpAnyH_take (i := 4) (oi := ⟨some 18, _, _, _, _, _⟩) (v := ?_) rfl (by kernel_rfl) (by kernel_rfl) (by kernel_rfl) (fun _ _ _ h => h) (Or.inl ⟨by rfl, ?_⟩) (by assumption) ?_
      rotate_left
      · ((intro w hSw); (try dsimp only at hSw); go_simp; (try with_reducible rfl))
      (try simp only [Act.put, List.setIfInBounds_toArray, List.set_cons_zero, List.set_cons_succ])
      refine wpAnyH_take (i := 1) (oi := ⟨some 15, _, _, _, _, _⟩) (v := ?_) rfl (by kernel_rfl) (by kernel_rfl) (by kernel_rfl) (fun _ _ _ h => h) (Or.inl ⟨by rfl, ?_⟩) (by assumption) ?_
      rotate_left
      · ((intro w hSw); (try dsimp only at hSw); go_simp; (try with_reducible rfl))
      (try simp only [Act.put, List.setIfInBounds_toArray, List.set_cons_zero, List.set_cons_succ])
      refine wpAnyH_take (i := 5) (oi := ⟨some 19, _, _, _, _, _⟩) (v := ?_) rfl (by kernel_rfl) (by kernel_rfl) (by kernel_rfl) (fun _ _ _ h => h) (Or.inl ⟨by rfl, ?_⟩) (by assumption) ?_
      rotate_left
      · ((intro w hSw); (try dsimp only at hSw); go_simp; (try with_reducible rfl))
      (try simp only [Act.put, List.setIfInBounds_toArray, List.set_cons_zero, List.set_cons_succ])
      refine wpAnyH_take (i := 2) (oi := ⟨some 16, _, _, _, _, _⟩) (v := ?_) rfl (by kernel_rfl) (by kernel_rfl) (by kernel_rfl) (fun _ _ _ h => h) (Or.inl ⟨by rfl, ?_⟩) (by assumption) ?_
      rotate_left
      · ((intro w hSw); (try dsimp only at hSw); go_simp; (try with_reducible rfl))
      (try simp only [Act.put, List.setIfInBounds_toArray, List.set_cons_zero, List.set_cons_succ])
      refine wpAnyH_ready (rs := [3]) (by kernel_rfl) (by simp) ?_
      refine AllReadyH.cons (o := ⟨some 17, _, _, _, _, _⟩) rfl (fun K hK => ?_) AllReadyH.nil
      obtain ⟨hS1, hS2⟩ := hHeld
      go_simp
      (go_at_call 51; (with_reducible refine (V.out _).mono ?_); rintro e w1 ⟨b, rfl, hb, hs1⟩; have hcat : ¬ 9223372036854775807 < b.size + v.s.size := (by omega))
      refine hK.out _ _ (by (try dsimp only); (first | exact ⟨hS1, hS2⟩ | exact ⟨Step.of, (bcell (fut _ _)).1⟩)) (fun hHeld => ?_)
      clear hK K
      (try simp only [Act.put, List.setIfInBounds_toArray, List.set_cons_zero, List.set_cons_succ])
      refine wpAnyH_take (i := 6) (oi := ⟨some 20, _, _, _, _, _⟩) (v := ?_) rfl (by kernel_rfl) (by kernel_rfl) (by kernel_rfl) (fun _ _ _ h => h) (Or.inl ⟨by rfl, ?_⟩) (by assumption) ?_
      rotate_left
      · ((intro w hSw); (try dsimp only at hSw); go_simp; (try with_reducible rfl))
      (try simp only [Act.put, List.setIfInBounds_toArray, List.set_cons_zero, List.set_cons_succ])
      refine wpAnyH_take (i := 7) (oi := ⟨some 2, _, _, _, _, _⟩) (v := ?_) rfl (by kernel_rfl) (by kernel_rfl) (by kernel_rfl) (fun _ _ _ h => h) (Or.inl ⟨by rfl, ?_⟩) (by assumption) ?_
      rotate_left
      · ((intro w hSw); (try dsimp only at hSw); go_simp; (try with_reducible rfl))
      (try simp only [Act.put, List.setIfInBounds_toArray, List.set_cons_zero, List.set_cons_succ])
      refine wpAnyH_done (by kernel_rfl) ?_ _
      clear hHeld x0 x1 x2 x3 lx
      go_wp2_with fail
      go_ret
      exact ⟨b ++ v.s, rfl, by rw [ByteArray.size_append]; omega, Step.of⟩

theorem Own.set_far {w : World} {base p i : Nat} {e t : TypeId} {size n c : Nat} {A : Option Addr} {u : Value} {l : List (List Value)} {cs : List Value} (h : Own w base e size (.slice A n c) l) (hp : Blk w p t cs) (hne : e ≠ t) : Own (w.setCell ⟨p, i, none⟩ u) base e size (.slice A n c) l := h.set_other hp hne i u

set_option maxRecDepth 100000 in
set_option maxHeartbeats 8000000 in
theorem cut_any {w0 : World} (vs : List Val) (Av : Option Addr) (cv : Nat) (w : World) (hv : SlAt w0 w0.heap.size 4 Av (vs.map Val.cells)) [f0 : Fut w0 w] (hl : vs.length ≤ 4096) (hvs : ∀ v ∈ vs, v.s.size ≤ 1000000) :
    Calls Tryd.prog 62 #[.slice Av vs.length cv] w fun e w' => ∃ (A1 : Option Addr) (c1 : Nat) (ms : List Int) (A2 : Option Addr) (c2 : Nat) (us : List Val), e = .returned (.tuple #[.slice A1 us.length c1, .slice A2 us.length c2]) ∧ ms.length = us.length ∧ us.length ≤ vs.length ∧ (∀ x ∈ ms, 0 ≤ x ∧ x ≤ 4096) ∧ (∀ u ∈ us, ∃ v ∈ vs, u = clean v) ∧ Own w' w.heap.size 3 1 (.slice A1 us.length c1) (intCells ms) ∧ Own w' w.heap.size 57 4 (.slice A2 us.length c2) (us.map Val.cells) ∧ Step w w' := by
  have z0 := f0.below.size
  have HVS := hide hvs
  clear hvs
  go_enter Tryd.func62, Tryd.ntmps62
  go_wp2_with fail
  go_loopw [4, 5, 6, 7] (fun mv uv iv _ wr => ∃ (j m : Nat) (A1 : Option Addr) (c1 : Nat) (ms : List Int) (A2 : Option Addr) (c2 : Nat) (us : List Val), j ≤ vs.length ∧ iv = .int .i64 j ∧ mv = .slice A1 m c1 ∧ uv = .slice A2 m c2 ∧ Hid (ms.length = m) ∧ Hid (us.length = m) ∧ m ≤ j ∧ Hid (∀ x ∈ ms, 0 ≤ x ∧ x ≤ (j : Int)) ∧ Hid (∀ u ∈ us, ∃ v ∈ vs, u = clean v) ∧ Own wr w.heap.size 3 1 (.slice A1 m c1) (intCells ms) ∧ Own wr w.heap.size 57 4 (.slice A2 m c2) (us.map Val.cells) ∧ Step w wr) (fun _ _ iv _ _ => vs.length - (intOf iv).toNat)
  case atStart => exact ⟨0, 0, none, 0, [], none, 0, [], Nat.zero_le _, rfl, rfl, rfl, rfl, rfl, Nat.le_refl _, fun x hx => by simp at hx, fun u hu => by simp at hu, Own.nil_ _ _ _ _, Own.nil_ _ _ _ _, Step.of⟩
  case round =>
    obtain ⟨j, m, A1, c1, ms, A2, c2, us, hj, rfl, rfl, rfl, HML, HUL, hmj, HMS, HUS, ho1, ho2, hst⟩ := hrel
    have HO1 := hide ho1; have HO2 := hide ho2
    clear ho1 ho2
    obtain ⟨wo, rfl⟩ : ∃ x : World, x = wr := ⟨_, rfl⟩
    have hzo := hst.size
    by_cases hlt : j < vs.length
    · obtain ⟨b, off, rfl, hb, hc⟩ := hv.elem (w' := wo) inferInstance (k := j) (by simpa using hlt)
      obtain ⟨v, hvk⟩ : ∃ v, vs[j]? = some v := ⟨_, List.getElem?_eq_getElem hlt⟩
      obtain ⟨v0, v1, v2, v3⟩ := At.l4 (hc j v.cells (by simp [hvk]))
      have lb : b < wo.heap.size := by omega
      have hjl : (j : Int) < (vs.length : Int) := by omega
      have hj0 : (0 : Int) ≤ (j : Int) := by omega
      have hvm := HVS.out v (List.mem_of_getElem? hvk)
      have HVK := hide hvk
      have HAT : Hid (∀ w' [Fut w0 w'], At w' b (off + j * 4) v.cells) := by
        intro w' _
        obtain ⟨b', off', e_, _, hc'⟩ := hv.elem (w' := w') inferInstance (k := j) (by simpa using hlt)
        cases e_
        exact hc' j v.cells (by simp [HVK.out])
      clear hc hvk
      rcases Nat.eq_zero_or_pos m with hm | hm
      · subst hm
        go_upto_region 7 with (fail)
        refine wp_region_held_drew (S := (fun w' => Step wo w' ∧ (∀ b o, b < wo.heap.size → w'.cell? ⟨b, o, none⟩ = wo.cell? ⟨b, o, none⟩))) (by kernel_rfl) (by (try dsimp only); (first | exact ⟨hS1, hS2⟩ | exact ⟨Step.of, (bcell (fut _ _)).1⟩)) (fun hHeld => ?_)
        refine wpAnyH_take (i := 0) (oi := ⟨some 16, _, _, _, _, _⟩) (v := ?_) rfl (by kernel_rfl) (by kernel_rfl) (by kernel_rfl) (fun _ _ _ h => h) (Or.inl ⟨by rfl, ?_⟩) (by assumption) ?_
        rotate_left
        · ((intro w hSw); (try dsimp only at hSw); go_simp; (try with_reducible rfl))
        (try simp only [Act.put, List.setIfInBounds_toArray, List.set_cons_zero, List.set_cons_succ])
        refine wpAnyH_take (i := 1) (oi := ⟨some 17, _, _, _, _, _⟩) (v := ?_) rfl (by kernel_rfl) (by kernel_rfl) (by kernel_rfl) (fun _ _ _ h => h) (Or.inl ⟨by rfl, ?_⟩) (by assumption) ?_
        rotate_left
        · ((intro w hSw); (try dsimp only at hSw); go_simp; (try with_reducible rfl))
        (try simp only [Act.put, List.setIfInBounds_toArray, List.set_cons_zero, List.set_cons_succ])
        refine wpAnyH_take (i := 2) (oi := ⟨some 18, _, _, _, _, _⟩) (v := ?_) rfl (by kernel_rfl) (by kernel_rfl) (by kernel_rfl) (fun _ _ _ h => h) (Or.inl ⟨by rfl, ?_⟩) (by assumption) ?_
        rotate_left
        · ((intro w hSw); (try dsimp only at hSw); go_simp; (try with_reducible rfl))
        (try simp only [Act.put, List.setIfInBounds_toArray, List.set_cons_zero, List.set_cons_succ])
        refine wpAnyH_take (i := 3) (oi := ⟨some 19, _, _, _, _, _⟩) (v := undef) rfl (by kernel_rfl) (by kernel_rfl) (by kernel_rfl) (fun _ _ _ h => h) (Or.inr ⟨by rfl, rfl⟩) (by assumption) ?_
        (try simp only [Act.put, List.setIfInBounds_toArray, List.set_cons_zero, List.set_cons_succ])
        refine wpAnyH_take (i := 4) (oi := ⟨some 20, _, _, _, _, _⟩) (v := undef) rfl (by kernel_rfl) (by kernel_rfl) (by kernel_rfl) (fun _ _ _ h => h) (Or.inr ⟨by rfl, rfl⟩) (by assumption) ?_
        (try simp only [Act.put, List.setIfInBounds_toArray, List.set_cons_zero, List.set_cons_succ])
        refine wpAnyH_take (i := 8) (oi := ⟨some 24, _, _, _, _, _⟩) (v := undef) rfl (by kernel_rfl) (by kernel_rfl) (by kernel_rfl) (fun _ _ _ h => h) (Or.inr ⟨by rfl, rfl⟩) (by assumption) ?_
        (try simp only [Act.put, List.setIfInBounds_toArray, List.set_cons_zero, List.set_cons_succ])
        refine wpAnyH_take (i := 9) (oi := ⟨some 25, _, _, _, _, _⟩) (v := undef) rfl (by kernel_rfl) (by kernel_rfl) (by kernel_rfl) (fun _ _ _ h => h) (Or.inr ⟨by rfl, rfl⟩) (by assumption) ?_
        (try simp only [Act.put, List.setIfInBounds_toArray, List.set_cons_zero, List.set_cons_succ])
        refine wpAnyH_take (i := 5) (oi := ⟨some 21, _, _, _, _, _⟩) (v := undef) rfl (by kernel_rfl) (by kernel_rfl) (by kernel_rfl) (fun _ _ _ h => h) (Or.inr ⟨by rfl, rfl⟩) (by assumption) ?_
        (try simp only [Act.put, List.setIfInBounds_toArray, List.set_cons_zero, List.set_cons_succ])
        refine wpAnyH_take (i := 10) (oi := ⟨some 26, _, _, _, _, _⟩) (v := undef) rfl (by kernel_rfl) (by kernel_rfl) (by kernel_rfl) (fun _ _ _ h => h) (Or.inr ⟨by rfl, rfl⟩) (by assumption) ?_
        (try simp only [Act.put, List.setIfInBounds_toArray, List.set_cons_zero, List.set_cons_succ])
        refine wpAnyH_take (i := 6) (oi := ⟨some 22, _, _, _, _, _⟩) (v := undef) rfl (by kernel_rfl) (by kernel_rfl) (by kernel_rfl) (fun _ _ _ h => h) (Or.inr ⟨by rfl, rfl⟩) (by assumption) ?_
        (try simp only [Act.put, List.setIfInBounds_toArray, List.set_cons_zero, List.set_cons_succ])
        refine wpAnyH_take (i := 11) (oi := ⟨some 27, _, _, _, _, _⟩) (v := undef) rfl (by kernel_rfl) (by kernel_rfl) (by kernel_rfl) (fun _ _ _ h => h) (Or.inr ⟨by rfl, rfl⟩) (by assumption) ?_
        (try simp only [Act.put, List.setIfInBounds_toArray, List.set_cons_zero, List.set_cons_succ])
        refine wpAnyH_take (i := 7) (oi := ⟨some 23, _, _, _, _, _⟩) (v := undef) rfl (by kernel_rfl) (by kernel_rfl) (by kernel_rfl) (fun _ _ _ h => h) (Or.inr ⟨by rfl, rfl⟩) (by assumption) ?_
        (try simp only [Act.put, List.setIfInBounds_toArray, List.set_cons_zero, List.set_cons_succ])
        refine wpAnyH_take (i := 12) (oi := ⟨some 28, _, _, _, _, _⟩) (v := undef) rfl (by kernel_rfl) (by kernel_rfl) (by kernel_rfl) (fun _ _ _ h => h) (Or.inr ⟨by rfl, rfl⟩) (by assumption) ?_
        (try simp only [Act.put, List.setIfInBounds_toArray, List.set_cons_zero, List.set_cons_succ])
        refine wpAnyH_take (i := 13) (oi := ⟨some 29, _, _, _, _, _⟩) (v := undef) rfl (by kernel_rfl) (by kernel_rfl) (by kernel_rfl) (fun _ _ _ h => h) (Or.inr ⟨by rfl, rfl⟩) (by assumption) ?_
        (try simp only [Act.put, List.setIfInBounds_toArray, List.set_cons_zero, List.set_cons_succ])
        refine wpAnyH_take (i := 14) (oi := ⟨some 30, _, _, _, _, _⟩) (v := ?_) rfl (by kernel_rfl) (by kernel_rfl) (by kernel_rfl) (fun _ _ _ h => h) (Or.inl ⟨by rfl, ?_⟩) (by assumption) ?_
        rotate_left
        · ((intro w hSw); (try dsimp only at hSw); go_simp; (try with_reducible rfl))
        (try simp only [Act.put, List.setIfInBounds_toArray, List.set_cons_zero, List.set_cons_succ])
        refine wpAnyH_done (by kernel_rfl) ?_ _
        clear hHeld
        obtain ⟨wd, hwd⟩ : ∃ wd, wd = wo.drew := ⟨_, rfl⟩
        have SD : Step wo wd := by rw [hwd]; exact ⟨(Below.refl _ _).drew⟩
        rw [← hwd]
        clear hwd
        have hat_ := HAT.out wd; clear v0 v1 v2 v3; obtain ⟨v0, v1, v2, v3⟩ := At.l4 hat_; clear hat_
        have lb : b < wd.heap.size := by have := SD.size; omega
        have CL := fun w' => vclean_any v w'
        unfold Val.val at CL
        have CL := hide CL
        have HOD1 := hide (HO1.out.fut (w' := wd.alloc (.cells #[.int .i64 1] 3)))
        have HOD2 := hide (HO2.out.fut (w' := wd.alloc (.cells #[.int .i64 1] 3)))
        have HN1 := hide (SlAt.one wd 1 [.int .i64 1] 3)
        have HIL : Hid ((intCells ms).length = 0) := by show _ = _; rw [intCells_len, HML.out]
        have HVL : Hid ((us.map Val.cells).length = 0) := by show _ = _; rw [List.length_map, HUL.out]
        have hzd := (fut w wd).size
        go_wp2_with (first
          | (at_builtin; go_loud (refine wpList_append_sl rfl (.tmp 38) (.tmp 39) 51 rfl eiInt (base := w.heap.size) (xs := intCells ms) rfl HOD1.out (int_fit _) (ys := [[.int .i64 1]]) rfl (by simp) HN1.out (int_fit [1]) (by rw [HIL.out]; show (_ + 1) * 8 ≤ _; omega) (fut w (wd.alloc (.cells #[.int .i64 1] 3))).size (N := 0 + 1) (by rw [HIL.out]; rfl) ?_; intro A7 c7 w7 hq1 hq2 hown7 hgr7 hbel7; have H7 := hide hown7; have hs7 : Step w w7 := ⟨(fut w (wd.alloc (.cells #[.int .i64 1] 3))).trans hbel7⟩; have HOU := hide (HOD2.out.grown_other hgr7 (own_ne HOD2.out HOD1.out (by decide))); clear hown7 hgr7 hbel7 v0 v1 v2 v3 lb; have hat_ := HAT.out w7; obtain ⟨v0, v1, v2, v3⟩ := At.l4 hat_; have lb : b < w7.heap.size := (by have := hs7.size; omega); clear hat_))
          | (go_at_call 25; (with_reducible refine (CL.out _).mono ?_); rintro e w8 ⟨rfl, hs8⟩; have HOW := hide (HOU.out.fut (w' := w8.alloc (.cells #[.int .i64 (clean v).kind, .int .i64 (clean v).i, .bool (clean v).b, .string (clean v).s] 57))); have HN2 := hide (SlAt.one w8 4 [.int .i64 (clean v).kind, .int .i64 (clean v).i, .bool (clean v).b, .string (clean v).s] 57))
          | (at_builtin; go_loud (refine wpList_append_sl rfl (.tmp 41) (.tmp 47) 45 rfl eiV4 (base := w.heap.size) (xs := us.map Val.cells) rfl HOW.out (vals_fit _) (ys := [[.int .i64 (clean v).kind, .int .i64 (clean v).i, .bool (clean v).b, .string (clean v).s]]) rfl (by simp) HN2.out (vals_fit [clean v]) (by rw [HVL.out]; show (_ + 1) * 40 ≤ _; omega) (fut w (w8.alloc (.cells #[.int .i64 (clean v).kind, .int .i64 (clean v).i, .bool (clean v).b, .string (clean v).s] 57))).size (N := 0 + 1) (by rw [HVL.out]; rfl) ?_; intro A9 c9 w9 hq3 hq4 hown9 hgr9 hbel9; have H9 := hide hown9; have HI := hide (H7.out.fut (w' := w8.alloc (.cells #[.int .i64 (clean v).kind, .int .i64 (clean v).i, .bool (clean v).b, .string (clean v).s] 57))); have HI9 := hide (HI.out.grown_other hgr9 (own_ne HI.out HOW.out (by decide))); have hs9 : Step w w9 := ⟨(fut w (w8.alloc (.cells #[.int .i64 (clean v).kind, .int .i64 (clean v).i, .bool (clean v).b, .string (clean v).s] 57))).trans hbel9⟩; clear hown9 hgr9 hbel9)))
        go_roundw
        case rel =>
          refine ⟨j + 1, 0 + 1, A7, c7, ms ++ [1], A9, c9, us ++ [clean v], by omega, by go_num, by go_num, by go_num, by show _ = _; rw [List.length_append, HML.out]; rfl, by show _ = _; rw [List.length_append, HUL.out]; rfl, by omega, ?_, ?_, by have h_ := HI9.out; simpa [intCells] using h_, by rw [List.map_append]; exact H9.out, hs9⟩
          · intro x hx
            rcases List.mem_append.1 hx with hx | hx
            · have := HMS.out x hx; omega
            · simp at hx; omega
          · intro x hx
            rcases List.mem_append.1 hx with hx | hx
            · exact HUS.out x hx
            · simp at hx; exact ⟨v, List.mem_of_getElem? HVK.out, hx⟩
        case measure => simp [intOf]; omega
      · obtain ⟨k, rfl⟩ : ∃ k, m = k + 1 := ⟨m - 1, by omega⟩
        obtain ⟨u, hu⟩ : ∃ u, us[k]? = some u := ⟨_, List.getElem?_eq_getElem (by have := HUL.out; omega)⟩
        obtain ⟨g2, rfl, hg2, hgl2, hat2, hfr2, _⟩ := HO2.out.put (vals_fit us).len (k := k) (j := 0) (cs := u.cells) (by simp [hu]) (by decide)
        obtain ⟨u0, u1, u2, u3⟩ := At.l4 hat2
        obtain ⟨y, hy⟩ : ∃ y, ms[k]? = some y := ⟨_, List.getElem?_eq_getElem (by have := HML.out; omega)⟩
        obtain ⟨g1, rfl, hg1, hgl1, hat1, hfr1, hput1⟩ := HO1.out.put (int_fit ms).len (k := k) (j := 0) (cs := [.int .i64 y]) (by simp [intCells, hy]) (by decide)
        have y0 := At.l1 hat1
        simp only [Nat.mul_one] at y0
        have hum : u.s.size ≤ 9223372036854775807 := by
          obtain ⟨v', hv', rfl⟩ := HUS.out u (List.mem_of_getElem? hu)
          have h1 := HVS.out v' hv'
          rcases clean_s_le v' with h | h <;> omega
        obtain ⟨cm, hcm⟩ : ∃ cm, cmpV u v = cm := ⟨_, rfl⟩
        have RC := fun w' => rcmp_any u v w' hum (by omega)
        rw [hcm] at RC
        unfold Val.val at RC
        have RC := hide RC
        have hk0 : (0 : Int) < (k : Int) + 1 := by omega
        have hk00 : (0 : Int) ≤ (k : Int) := by omega
        have hkw : IntKind.i64.wrap (k : Int) = (k : Int) := by rw [IntKind.wrap_i64]; omega
        have hkk : (k : Int) < (k : Int) + 1 := by omega
        have HPUT := hide hput1; have HY := hide hy; have HFR := hide hfr1
        clear hu hat2 hfr2 hat1 hfr1 hput1 hy hcm
        by_cases hc0 : cm = 0
        · subst hc0
          go_upto_region 7 with (fail)
          refine wp_region_held_drew (S := (fun w' => Step wo w' ∧ (∀ b o, b < wo.heap.size → w'.cell? ⟨b, o, none⟩ = wo.cell? ⟨b, o, none⟩))) (by kernel_rfl) (by (try dsimp only); (first | exact ⟨hS1, hS2⟩ | exact ⟨Step.of, (bcell (fut _ _)).1⟩)) (fun hHeld => ?_)
          refine wpAnyH_take (i := 0) (oi := ⟨some 16, _, _, _, _, _⟩) (v := ?_) rfl (by kernel_rfl) (by kernel_rfl) (by kernel_rfl) (fun _ _ _ h => h) (Or.inl ⟨by rfl, ?_⟩) (by assumption) ?_
          rotate_left
          · ((intro w hSw); (try dsimp only at hSw); go_simp; (try with_reducible rfl))
          (try simp only [Act.put, List.setIfInBounds_toArray, List.set_cons_zero, List.set_cons_succ])
          refine wpAnyH_take (i := 1) (oi := ⟨some 17, _, _, _, _, _⟩) (v := ?_) rfl (by kernel_rfl) (by kernel_rfl) (by kernel_rfl) (fun _ _ _ h => h) (Or.inl ⟨by rfl, ?_⟩) (by assumption) ?_
          rotate_left
          · ((intro w hSw); (try dsimp only at hSw); go_simp; (try with_reducible rfl))
          (try simp only [Act.put, List.setIfInBounds_toArray, List.set_cons_zero, List.set_cons_succ])
          refine wpAnyH_take (i := 2) (oi := ⟨some 18, _, _, _, _, _⟩) (v := ?_) rfl (by kernel_rfl) (by kernel_rfl) (by kernel_rfl) (fun _ _ _ h => h) (Or.inl ⟨by rfl, ?_⟩) (by assumption) ?_
          rotate_left
          · ((intro w hSw); (try dsimp only at hSw); go_simp; (try with_reducible rfl))
          (try simp only [Act.put, List.setIfInBounds_toArray, List.set_cons_zero, List.set_cons_succ])
          refine wpAnyH_take (i := 3) (oi := ⟨some 19, _, _, _, _, _⟩) (v := ?_) rfl (by kernel_rfl) (by kernel_rfl) (by kernel_rfl) (fun _ _ _ h => h) (Or.inl ⟨by rfl, ?_⟩) (by assumption) ?_
          rotate_left
          · ((intro w hSw); (try dsimp only at hSw); go_simp; (try with_reducible rfl))
          (try simp only [Act.put, List.setIfInBounds_toArray, List.set_cons_zero, List.set_cons_succ])
          refine wpAnyH_take (i := 4) (oi := ⟨some 20, _, _, _, _, _⟩) (v := ?_) rfl (by kernel_rfl) (by kernel_rfl) (by kernel_rfl) (fun _ _ _ h => h) (Or.inl ⟨by rfl, ?_⟩) (by assumption) ?_
          rotate_left
          · ((intro w hSw); (try dsimp only at hSw); go_simp; (try with_reducible rfl))
          (try simp only [Act.put, List.setIfInBounds_toArray, List.set_cons_zero, List.set_cons_succ])
          refine wpAnyH_take (i := 8) (oi := ⟨some 24, _, _, _, _, _⟩) (v := ?_) rfl (by kernel_rfl) (by kernel_rfl) (by kernel_rfl) (fun _ _ _ h => h) (Or.inl ⟨by rfl, ?_⟩) (by assumption) ?_
          rotate_left
          · ((intro w hSw); (try dsimp only at hSw); go_simp; (try with_reducible rfl))
          (try simp only [Act.put, List.setIfInBounds_toArray, List.set_cons_zero, List.set_cons_succ])
          refine wpAnyH_take (i := 9) (oi := ⟨some 25, _, _, _, _, _⟩) (v := ?_) rfl (by kernel_rfl) (by kernel_rfl) (by kernel_rfl) (fun _ _ _ h => h) (Or.inl ⟨by rfl, ?_⟩) (by assumption) ?_
          rotate_left
          · ((intro w hSw); (try dsimp only at hSw); go_simp; (try with_reducible rfl))
          (try simp only [Act.put, List.setIfInBounds_toArray, List.set_cons_zero, List.set_cons_succ])
          refine wpAnyH_take (i := 5) (oi := ⟨some 21, _, _, _, _, _⟩) (v := ?_) rfl (by kernel_rfl) (by kernel_rfl) (by kernel_rfl) (fun _ _ _ h => h) (Or.inl ⟨by rfl, ?_⟩) (by assumption) ?_
          rotate_left
          · ((intro w hSw); (try dsimp only at hSw); go_simp; (try with_reducible rfl))
          (try simp only [Act.put, List.setIfInBounds_toArray, List.set_cons_zero, List.set_cons_succ])
          refine wpAnyH_take (i := 10) (oi := ⟨some 26, _, _, _, _, _⟩) (v := ?_) rfl (by kernel_rfl) (by kernel_rfl) (by kernel_rfl) (fun _ _ _ h => h) (Or.inl ⟨by rfl, ?_⟩) (by assumption) ?_
          rotate_left
          · ((intro w hSw); (try dsimp only at hSw); go_simp; (try with_reducible rfl))
          (try simp only [Act.put, List.setIfInBounds_toArray, List.set_cons_zero, List.set_cons_succ])
          refine wpAnyH_take (i := 6) (oi := ⟨some 22, _, _, _, _, _⟩) (v := ?_) rfl (by kernel_rfl) (by kernel_rfl) (by kernel_rfl) (fun _ _ _ h => h) (Or.inl ⟨by rfl, ?_⟩) (by assumption) ?_
          rotate_left
          · ((intro w hSw); (try dsimp only at hSw); go_simp; (try with_reducible rfl))
          (try simp only [Act.put, List.setIfInBounds_toArray, List.set_cons_zero, List.set_cons_succ])
          refine wpAnyH_take (i := 11) (oi := ⟨some 27, _, _, _, _, _⟩) (v := ?_) rfl (by kernel_rfl) (by kernel_rfl) (by kernel_rfl) (fun _ _ _ h => h) (Or.inl ⟨by rfl, ?_⟩) (by assumption) ?_
          rotate_left
          · ((intro w hSw); (try dsimp only at hSw); go_simp; (try with_reducible rfl))
          (try simp only [Act.put, List.setIfInBounds_toArray, List.set_cons_zero, List.set_cons_succ])
          refine wpAnyH_take (i := 7) (oi := ⟨some 23, _, _, _, _, _⟩) (v := ?_) rfl (by kernel_rfl) (by kernel_rfl) (by kernel_rfl) (fun _ _ _ h => h) (Or.inl ⟨by rfl, ?_⟩) (by assumption) ?_
          rotate_left
          · ((intro w hSw); (try dsimp only at hSw); go_simp; (try with_reducible rfl))
          (try simp only [Act.put, List.setIfInBounds_toArray, List.set_cons_zero, List.set_cons_succ])
          refine wpAnyH_ready (rs := [12]) (by kernel_rfl) (by simp) ?_
          refine AllReadyH.cons (o := ⟨some 28, _, _, _, _, _⟩) rfl (fun K hK => ?_) AllReadyH.nil
          obtain ⟨hS1, hS2⟩ := hHeld
          go_simp
          (go_at_call 74; (with_reducible refine (RC.out _).mono ?_); rintro e w5 ⟨rfl, hs5⟩)
          refine hK.out _ _ (by (try dsimp only); (first | exact ⟨hS1, hS2⟩ | exact ⟨Step.of, (bcell (fut _ _)).1⟩)) (fun hHeld => ?_)
          clear hK K
          (try simp only [Act.put, List.setIfInBounds_toArray, List.set_cons_zero, List.set_cons_succ])
          refine wpAnyH_take (i := 13) (oi := ⟨some 29, _, _, _, _, _⟩) (v := ?_) rfl (by kernel_rfl) (by kernel_rfl) (by kernel_rfl) (fun _ _ _ h => h) (Or.inl ⟨by rfl, ?_⟩) (by assumption) ?_
          rotate_left
          · ((intro w hSw); (try dsimp only at hSw); go_simp; (try with_reducible rfl))
          (try simp only [Act.put, List.setIfInBounds_toArray, List.set_cons_zero, List.set_cons_succ])
          refine wpAnyH_take (i := 14) (oi := ⟨some 30, _, _, _, _, _⟩) (v := ?_) rfl (by kernel_rfl) (by kernel_rfl) (by kernel_rfl) (fun _ _ _ h => h) (Or.inl ⟨by rfl, ?_⟩) (by assumption) ?_
          rotate_left
          · ((intro w hSw); (try dsimp only at hSw); go_simp; (try with_reducible rfl))
          (try simp only [Act.put, List.setIfInBounds_toArray, List.set_cons_zero, List.set_cons_succ])
          refine wpAnyH_done (by kernel_rfl) ?_ _
          clear hHeld u0 u1 u2 u3 v0 v1 v2 v3 lb y0
          have HA1 := hide (HO1.out.fut (w' := w5)); have HA2 := hide (HO2.out.fut (w' := w5))
          obtain ⟨g1', e1_, hg1', hgl1', hat1, hfr1, hput1⟩ := HA1.out.put (int_fit ms).len (k := k) (j := 0) (cs := [.int .i64 y]) (by simp [intCells, HY.out]) (by decide)
          cases e1_
          have y0 := At.l1 hat1
          have f0_ := hfr1 (k * 1 + 0)
          simp only [Nat.mul_one, Nat.add_zero] at y0 f0_ hput1
          have HPUT := hide hput1
          clear hat1 hfr1 hput1 HO1 HO2
          have hyb := HMS.out y (List.mem_of_getElem? HY.out)
          go_wp2_with fail
          go_roundw
          case rel =>
            refine ⟨j + 1, k + 1, some ⟨g1, 0, none⟩, c1, ms.set k (y + 1), some ⟨g2, 0, none⟩, c2, us, by omega, by go_num, rfl, rfl, by show _ = _; rw [List.length_set]; exact HML.out, HUL.out, by omega, ?_, HUS.out, ?_, HA2.out.grown_other (grown_setCell w5 g1 k _) (own_ne HA2.out HA1.out (by decide)), ⟨Below.setCell (p := ⟨g1, k, none⟩) (fut w w5) hg1 _⟩⟩
            · intro x hx
              rcases List.mem_or_eq_of_mem_set hx with hx | rfl
              · have := HMS.out x hx; omega
              · omega
            · have h_ := HPUT.out (.int .i64 (y + 1))
              have e_ : intCells (ms.set k (y + 1)) = (intCells ms).set k ([Value.int .i64 y].set 0 (.int .i64 (y + 1))) := by simp [intCells, List.map_set]
              rw [e_]
              exact h_
          case measure => simp [intOf]; omega
        · have hc0b : (cm == 0) = false := beq_eq_false_iff_ne.2 hc0
          go_upto_region 7 with (fail)
          refine wp_region_held_drew (S := (fun w' => Step wo w' ∧ (∀ b o, b < wo.heap.size → w'.cell? ⟨b, o, none⟩ = wo.cell? ⟨b, o, none⟩))) (by kernel_rfl) (by (try dsimp only); (first | exact ⟨hS1, hS2⟩ | exact ⟨Step.of, (bcell (fut _ _)).1⟩)) (fun hHeld => ?_)
          refine wpAnyH_take (i := 0) (oi := ⟨some 16, _, _, _, _, _⟩) (v := ?_) rfl (by kernel_rfl) (by kernel_rfl) (by kernel_rfl) (fun _ _ _ h => h) (Or.inl ⟨by rfl, ?_⟩) (by assumption) ?_
          rotate_left
          · ((intro w hSw); (try dsimp only at hSw); go_simp; (try with_reducible rfl))
          (try simp only [Act.put, List.setIfInBounds_toArray, List.set_cons_zero, List.set_cons_succ])
          refine wpAnyH_take (i := 1) (oi := ⟨some 17, _, _, _, _, _⟩) (v := ?_) rfl (by kernel_rfl) (by kernel_rfl) (by kernel_rfl) (fun _ _ _ h => h) (Or.inl ⟨by rfl, ?_⟩) (by assumption) ?_
          rotate_left
          · ((intro w hSw); (try dsimp only at hSw); go_simp; (try with_reducible rfl))
          (try simp only [Act.put, List.setIfInBounds_toArray, List.set_cons_zero, List.set_cons_succ])
          refine wpAnyH_take (i := 2) (oi := ⟨some 18, _, _, _, _, _⟩) (v := ?_) rfl (by kernel_rfl) (by kernel_rfl) (by kernel_rfl) (fun _ _ _ h => h) (Or.inl ⟨by rfl, ?_⟩) (by assumption) ?_
          rotate_left
          · ((intro w hSw); (try dsimp only at hSw); go_simp; (try with_reducible rfl))
          (try simp only [Act.put, List.setIfInBounds_toArray, List.set_cons_zero, List.set_cons_succ])
          refine wpAnyH_take (i := 3) (oi := ⟨some 19, _, _, _, _, _⟩) (v := ?_) rfl (by kernel_rfl) (by kernel_rfl) (by kernel_rfl) (fun _ _ _ h => h) (Or.inl ⟨by rfl, ?_⟩) (by assumption) ?_
          rotate_left
          · ((intro w hSw); (try dsimp only at hSw); go_simp; (try with_reducible rfl))
          (try simp only [Act.put, List.setIfInBounds_toArray, List.set_cons_zero, List.set_cons_succ])
          refine wpAnyH_take (i := 4) (oi := ⟨some 20, _, _, _, _, _⟩) (v := ?_) rfl (by kernel_rfl) (by kernel_rfl) (by kernel_rfl) (fun _ _ _ h => h) (Or.inl ⟨by rfl, ?_⟩) (by assumption) ?_
          rotate_left
          · ((intro w hSw); (try dsimp only at hSw); go_simp; (try with_reducible rfl))
          (try simp only [Act.put, List.setIfInBounds_toArray, List.set_cons_zero, List.set_cons_succ])
          refine wpAnyH_take (i := 8) (oi := ⟨some 24, _, _, _, _, _⟩) (v := ?_) rfl (by kernel_rfl) (by kernel_rfl) (by kernel_rfl) (fun _ _ _ h => h) (Or.inl ⟨by rfl, ?_⟩) (by assumption) ?_
          rotate_left
          · ((intro w hSw); (try dsimp only at hSw); go_simp; (try with_reducible rfl))
          (try simp only [Act.put, List.setIfInBounds_toArray, List.set_cons_zero, List.set_cons_succ])
          refine wpAnyH_take (i := 9) (oi := ⟨some 25, _, _, _, _, _⟩) (v := ?_) rfl (by kernel_rfl) (by kernel_rfl) (by kernel_rfl) (fun _ _ _ h => h) (Or.inl ⟨by rfl, ?_⟩) (by assumption) ?_
          rotate_left
          · ((intro w hSw); (try dsimp only at hSw); go_simp; (try with_reducible rfl))
          (try simp only [Act.put, List.setIfInBounds_toArray, List.set_cons_zero, List.set_cons_succ])
          refine wpAnyH_take (i := 5) (oi := ⟨some 21, _, _, _, _, _⟩) (v := ?_) rfl (by kernel_rfl) (by kernel_rfl) (by kernel_rfl) (fun _ _ _ h => h) (Or.inl ⟨by rfl, ?_⟩) (by assumption) ?_
          rotate_left
          · ((intro w hSw); (try dsimp only at hSw); go_simp; (try with_reducible rfl))
          (try simp only [Act.put, List.setIfInBounds_toArray, List.set_cons_zero, List.set_cons_succ])
          refine wpAnyH_take (i := 10) (oi := ⟨some 26, _, _, _, _, _⟩) (v := ?_) rfl (by kernel_rfl) (by kernel_rfl) (by kernel_rfl) (fun _ _ _ h => h) (Or.inl ⟨by rfl, ?_⟩) (by assumption) ?_
          rotate_left
          · ((intro w hSw); (try dsimp only at hSw); go_simp; (try with_reducible rfl))
          (try simp only [Act.put, List.setIfInBounds_toArray, List.set_cons_zero, List.set_cons_succ])
          refine wpAnyH_take (i := 6) (oi := ⟨some 22, _, _, _, _, _⟩) (v := ?_) rfl (by kernel_rfl) (by kernel_rfl) (by kernel_rfl) (fun _ _ _ h => h) (Or.inl ⟨by rfl, ?_⟩) (by assumption) ?_
          rotate_left
          · ((intro w hSw); (try dsimp only at hSw); go_simp; (try with_reducible rfl))
          (try simp only [Act.put, List.setIfInBounds_toArray, List.set_cons_zero, List.set_cons_succ])
          refine wpAnyH_take (i := 11) (oi := ⟨some 27, _, _, _, _, _⟩) (v := ?_) rfl (by kernel_rfl) (by kernel_rfl) (by kernel_rfl) (fun _ _ _ h => h) (Or.inl ⟨by rfl, ?_⟩) (by assumption) ?_
          rotate_left
          · ((intro w hSw); (try dsimp only at hSw); go_simp; (try with_reducible rfl))
          (try simp only [Act.put, List.setIfInBounds_toArray, List.set_cons_zero, List.set_cons_succ])
          refine wpAnyH_take (i := 7) (oi := ⟨some 23, _, _, _, _, _⟩) (v := ?_) rfl (by kernel_rfl) (by kernel_rfl) (by kernel_rfl) (fun _ _ _ h => h) (Or.inl ⟨by rfl, ?_⟩) (by assumption) ?_
          rotate_left
          · ((intro w hSw); (try dsimp only at hSw); go_simp; (try with_reducible rfl))
          (try simp only [Act.put, List.setIfInBounds_toArray, List.set_cons_zero, List.set_cons_succ])
          refine wpAnyH_ready (rs := [12]) (by kernel_rfl) (by simp) ?_
          refine AllReadyH.cons (o := ⟨some 28, _, _, _, _, _⟩) rfl (fun K hK => ?_) AllReadyH.nil
          obtain ⟨hS1, hS2⟩ := hHeld
          go_simp
          (go_at_call 74; (with_reducible refine (RC.out _).mono ?_); rintro e w5 ⟨rfl, hs5⟩)
          refine hK.out _ _ (by (try dsimp only); (first | exact ⟨hS1, hS2⟩ | exact ⟨Step.of, (bcell (fut _ _)).1⟩)) (fun hHeld => ?_)
          clear hK K
          (try simp only [Act.put, List.setIfInBounds_toArray, List.set_cons_zero, List.set_cons_succ])
          refine wpAnyH_take (i := 13) (oi := ⟨some 29, _, _, _, _, _⟩) (v := ?_) rfl (by kernel_rfl) (by kernel_rfl) (by kernel_rfl) (fun _ _ _ h => h) (Or.inl ⟨by rfl, ?_⟩) (by assumption) ?_
          rotate_left
          · ((intro w hSw); (try dsimp only at hSw); go_simp; (try with_reducible rfl))
          (try simp only [Act.put, List.setIfInBounds_toArray, List.set_cons_zero, List.set_cons_succ])
          refine wpAnyH_take (i := 14) (oi := ⟨some 30, _, _, _, _, _⟩) (v := ?_) rfl (by kernel_rfl) (by kernel_rfl) (by kernel_rfl) (fun _ _ _ h => h) (Or.inl ⟨by rfl, ?_⟩) (by assumption) ?_
          rotate_left
          · ((intro w hSw); (try dsimp only at hSw); go_simp; (try with_reducible rfl))
          (try simp only [Act.put, List.setIfInBounds_toArray, List.set_cons_zero, List.set_cons_succ])
          refine wpAnyH_done (by kernel_rfl) ?_ _
          clear hHeld u0 u1 u2 u3 y0 v0 v1 v2 v3 lb
          have hat_ := HAT.out w5; obtain ⟨v0, v1, v2, v3⟩ := At.l4 hat_; clear hat_
          have lb : b < w5.heap.size := by have := (fut wo w5).size; omega
          have CL := fun w' => vclean_any v w'
          unfold Val.val at CL
          have CL := hide CL
          have HOD1 := hide (HO1.out.fut (w' := w5.alloc (.cells #[.int .i64 1] 3)))
          have HOD2 := hide (HO2.out.fut (w' := w5.alloc (.cells #[.int .i64 1] 3)))
          have HN1 := hide (SlAt.one w5 1 [.int .i64 1] 3)
          have HIL : Hid ((intCells ms).length = (k + 1)) := by show _ = _; rw [intCells_len, HML.out]
          have HVL : Hid ((us.map Val.cells).length = (k + 1)) := by show _ = _; rw [List.length_map, HUL.out]
          have hzd := (fut w w5).size
          go_wp2_with (first
            | (at_builtin; go_loud (refine wpList_append_sl rfl (.tmp 38) (.tmp 39) 51 rfl eiInt (base := w.heap.size) (xs := intCells ms) rfl HOD1.out (int_fit _) (ys := [[.int .i64 1]]) rfl (by simp) HN1.out (int_fit [1]) (by rw [HIL.out]; show (_ + 1) * 8 ≤ _; omega) (fut w (w5.alloc (.cells #[.int .i64 1] 3))).size (N := (k + 1) + 1) (by rw [HIL.out]; rfl) ?_; intro A7 c7 w7 hq1 hq2 hown7 hgr7 hbel7; have H7 := hide hown7; have hs7 : Step w w7 := ⟨(fut w (w5.alloc (.cells #[.int .i64 1] 3))).trans hbel7⟩; have HOU := hide (HOD2.out.grown_other hgr7 (own_ne HOD2.out HOD1.out (by decide))); clear hown7 hgr7 hbel7 v0 v1 v2 v3 lb; have hat_ := HAT.out w7; obtain ⟨v0, v1, v2, v3⟩ := At.l4 hat_; have lb : b < w7.heap.size := (by have := hs7.size; omega); clear hat_))
            | (go_at_call 25; (with_reducible refine (CL.out _).mono ?_); rintro e w8 ⟨rfl, hs8⟩; have HOW := hide (HOU.out.fut (w' := w8.alloc (.cells #[.int .i64 (clean v).kind, .int .i64 (clean v).i, .bool (clean v).b, .string (clean v).s] 57))); have HN2 := hide (SlAt.one w8 4 [.int .i64 (clean v).kind, .int .i64 (clean v).i, .bool (clean v).b, .string (clean v).s] 57))
            | (at_builtin; go_loud (refine wpList_append_sl rfl (.tmp 41) (.tmp 47) 45 rfl eiV4 (base := w.heap.size) (xs := us.map Val.cells) rfl HOW.out (vals_fit _) (ys := [[.int .i64 (clean v).kind, .int .i64 (clean v).i, .bool (clean v).b, .string (clean v).s]]) rfl (by simp) HN2.out (vals_fit [clean v]) (by rw [HVL.out]; show (_ + 1) * 40 ≤ _; omega) (fut w (w8.alloc (.cells #[.int .i64 (clean v).kind, .int .i64 (clean v).i, .bool (clean v).b, .string (clean v).s] 57))).size (N := (k + 1) + 1) (by rw [HVL.out]; rfl) ?_; intro A9 c9 w9 hq3 hq4 hown9 hgr9 hbel9; have H9 := hide hown9; have HI := hide (H7.out.fut (w' := w8.alloc (.cells #[.int .i64 (clean v).kind, .int .i64 (clean v).i, .bool (clean v).b, .string (clean v).s] 57))); have HI9 := hide (HI.out.grown_other hgr9 (own_ne HI.out HOW.out (by decide))); have hs9 : Step w w9 := ⟨(fut w (w8.alloc (.cells #[.int .i64 (clean v).kind, .int .i64 (clean v).i, .bool (clean v).b, .string (clean v).s] 57))).trans hbel9⟩; clear hown9 hgr9 hbel9)))
          go_roundw
          case rel =>
            refine ⟨j + 1, (k + 1) + 1, A7, c7, ms ++ [1], A9, c9, us ++ [clean v], by omega, by go_num, by go_num, by go_num, by show _ = _; rw [List.length_append, HML.out]; rfl, by show _ = _; rw [List.length_append, HUL.out]; rfl, by omega, ?_, ?_, by have h_ := HI9.out; simpa [intCells] using h_, by rw [List.map_append]; exact H9.out, hs9⟩
            · intro x hx
              rcases List.mem_append.1 hx with hx | hx
              · have := HMS.out x hx; omega
              · simp at hx; omega
            · intro x hx
              rcases List.mem_append.1 hx with hx | hx
              · exact HUS.out x hx
              · simp at hx; exact ⟨v, List.mem_of_getElem? HVK.out, hx⟩
          case measure => simp [intOf]; omega
    · obtain rfl : j = vs.length := by omega
      go_wp2_with fail
      go_ret2
      have hm1 := HML.out; have hm2 := HUL.out
      exact ⟨A1, c1, ms, A2, c2, us, by rw [hm2]; rfl, by omega, by omega, fun x hx => by have := HMS.out x hx; omega, HUS.out, by rw [hm2]; exact HO1.out, by rw [hm2]; exact HO2.out, Step.of⟩
end Go.Proofs.YtinpnginjpfbpaaDoor
