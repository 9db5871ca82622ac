/-
  The document's Vec: which values it takes.
-/
import Derived.Test.YtinpnginjpfbpaaDoorVg
import Derived.Test.YtinpnginjpfbpaaDoorVb
import Derived.Test.YtinpnginjpfbpaaDoorYs
import Derived.Test.YtinpnginjpfbpaaDoorYa
import Derived.OwnWalk
namespace Go.Proofs.YtinpnginjpfbpaaDoor
open Go.RowKit

theorem fit_null {k : Int} {v : Val} (h : kindV v = 0) : fitsB k v = true := by simp [fitsB, h]
theorem fit_kind {k : Int} {v : Val} (h : kindV v ≠ 0) (hk : v.kind ≠ k) : fitsB k v = false := by
  have e : kindV v = v.kind := by unfold kindV at h ⊢; split <;> simp_all
  have h1 : (kindV v == 0) = false := by simpa using h
  have h2 : (kindV v == k) = false := by rw [e]; simpa using hk
  simp [fitsB, h1, h2]
theorem fit_plain {k : Int} {v : Val} (h : kindV v ≠ 0) (hk : v.kind = k) (h3 : k ≠ 3) : fitsB k v = true ∧ (clean v).s.size ≤ 64 := by
  have e : kindV v = v.kind := by unfold kindV at h ⊢; split <;> simp_all
  have h4 : v.kind = 1 ∨ v.kind = 2 := by unfold kindV at h; split at h <;> omega
  have hs : (clean v).s = .empty := by
    unfold clean
    rcases h4 with q | q
    · rw [if_pos q]
    · rw [if_neg (by omega), if_pos q]
  have hv : validB .empty = true := by decide +kernel
  refine ⟨?_, by rw [hs]; exact Nat.zero_le _⟩
  unfold fitsB
  rw [hs, hv, e, hk]
  simp
theorem fit_text {v : Val} (h : v.kind = 3) : fitsB 3 v = (decide (v.s.size ≤ 64) && validB v.s) ∧ clean v = ⟨3, 0, false, v.s⟩ := by
  have e : kindV v = 3 := by unfold kindV; rw [if_pos (by omega)]; exact h
  have hc : clean v = ⟨3, 0, false, v.s⟩ := by unfold clean; rw [if_neg (by omega), if_neg (by omega), if_pos h]
  refine ⟨?_, hc⟩
  unfold fitsB
  rw [hc, e]
  simp

/-- What Vec's code says of its values. -/
structure VecR (k : Int) (vs : List Val) (code : Int) : Prop where
  ok : code = 0 → kindB k = true ∧ vs.all (fitsB k) = true
  no : code ≠ 0 → ¬ (kindB k = true ∧ vs.all (fitsB k) = true)
theorem VecR.bad {k : Int} {vs : List Val} {code : Int} (h : code ≠ 0) (hn : ¬ (kindB k = true ∧ vs.all (fitsB k) = true)) : VecR k vs code := ⟨fun e => absurd e h, fun _ => hn⟩
theorem VecR.good {k : Int} {vs : List Val} (h1 : kindB k = true) (h2 : vs.all (fitsB k) = true) : VecR k vs 0 := ⟨fun _ => ⟨h1, h2⟩, fun e => absurd rfl e⟩

set_option maxRecDepth 100000 in
set_option maxHeartbeats 16000000 in
theorem vec_any {w0 : World} (k : Int) (vs : List Val) (Av : Option Addr) (cv : Nat) (w : World) (hv : SlAt w0 w0.heap.size 4 Av (vs.map Val.cells)) [f0 : Fut w0 w] (hl : vs.length ≤ 4096) (hvs : ∀ v ∈ vs, v.s.size ≤ 9223372036854775807) :
    Calls Tryd.prog 40 #[.int .i64 k, .slice Av vs.length cv] w fun e w' => ∃ (b : ByteArray) (best code : Int), e = .returned (.tuple #[.string b, .int .i64 best, .int .i64 code]) ∧ VecR k vs code ∧ Step w w' := by
  have z0 := f0.below.size
  have HVS := hide hvs
  clear hvs
  have hln : ¬ (4096 : Int) < (vs.length : Int) := by omega
  by_cases hk1 : k < 1
  · have HBAD : Hid (¬ (kindB k = true ∧ vs.all (fitsB k) = true)) := by show ¬ _; rintro ⟨q, _⟩; simp [kindB] at q; omega
    go_enter Tryd.func40, Tryd.ntmps40
    go_wp2_with fail
    go_ret3
    exact ⟨⟨#[]⟩, 0, 900, rfl, .bad (by omega) HBAD.out, Step.of⟩
  · by_cases hk3 : 3 < k
    · have HBAD : Hid (¬ (kindB k = true ∧ vs.all (fitsB k) = true)) := by show ¬ _; rintro ⟨q, _⟩; simp [kindB] at q; omega
      go_enter Tryd.func40, Tryd.ntmps40
      go_wp2_with fail
      go_ret3
      exact ⟨⟨#[]⟩, 0, 900, rfl, .bad (by omega) HBAD.out, Step.of⟩
    · have hkB : kindB k = true := by simp [kindB]; omega
      have HKB := hide hkB
      clear hkB
      go_enter Tryd.func40, Tryd.ntmps40
      go_wp2_with fail
      clear hln
      go_loopw [7, 8, 9] (fun bv sv iv wr => ∃ (j m : Nat) (A1 : Option Addr) (c1 : Nat) (l : List Int) (A2 : Option Addr) (c2 : Nat) (us : List Val), j ≤ vs.length ∧ m ≤ j ∧ iv = .int .i64 j ∧ bv = .slice A1 j c1 ∧ sv = .slice A2 m c2 ∧ Hid (l.length = j) ∧ Hid (us.length = m) ∧ Hid (∀ x ∈ l, 0 ≤ x ∧ x ≤ 1) ∧ Hid (∀ u ∈ us, u.s.size ≤ 64) ∧ Hid ((vs.take j).all (fitsB k) = true) ∧ Own wr w.heap.size 3 1 (.slice A1 j c1) (intCells l) ∧ Own wr w.heap.size 57 4 (.slice A2 m c2) (us.map Val.cells) ∧ Step w wr) (fun _ _ iv _ => vs.length - (intOf iv).toNat)
      case atStart => exact ⟨0, 0, none, 0, [], none, 0, [], Nat.zero_le _, Nat.le_refl _, rfl, rfl, rfl, rfl, rfl, fun x hx => by simp at hx, fun u hu => by simp at hu, rfl, Own.nil_ _ _ _ _, Own.nil_ _ _ _ _, Step.of⟩
      case round =>
        obtain ⟨j, m, A1, c1, l, A2, c2, us, hj, hmj, rfl, rfl, rfl, HLL, HUL, HLB, HUB, HAL, ho1, ho2, hst⟩ := hrel
        have HO1 := hide ho1; have HO2 := hide ho2
        clear ho1 ho2
        obtain ⟨wo, rfl⟩ : ∃ x : World, x = wr := ⟨_, rfl⟩
        have hzo := hst.size
        by_cases hlt : j < vs.length
        · obtain ⟨b, off, rfl, hb, hc⟩ := hv.elem (w' := wo) inferInstance (k := j) (by simpa using hlt)
          obtain ⟨v, hvk⟩ : ∃ v, vs[j]? = some v := ⟨_, List.getElem?_eq_getElem hlt⟩
          have hat := hc j v.cells (by simp [hvk])
          obtain ⟨v0, v1, v2, v3⟩ := At.l4 hat
          have lb : b < wo.heap.size := by omega
          have hjl : (j : Int) < (vs.length : Int) := by omega
          have hj0 : (0 : Int) ≤ (j : Int) := by omega
          have HVK := hide hvk
          have HAT : Hid (∀ w' [Fut w0 w'], At w' b (off + j * 4) v.cells) := by
            intro w' _
            obtain ⟨b', off', e_, _, hc'⟩ := hv.elem (w' := w') inferInstance (k := j) (by simpa using hlt)
            cases e_
            exact hc' j v.cells (by simp [HVK.out])
          have HIL : Hid ((intCells l).length = j) := by show _ = _; rw [intCells_len, HLL.out]
          have HVL : Hid ((us.map Val.cells).length = m) := by show _ = _; rw [List.length_map, HUL.out]
          have hvsz := HVS.out v (List.mem_of_getElem? hvk)
          have HBAD : Hid (fitsB k v = false → ¬ (kindB k = true ∧ vs.all (fitsB k) = true)) := fun hf ⟨_, q⟩ => by
            have := List.all_eq_true.1 q v (List.mem_of_getElem? HVK.out)
            rw [hf] at this; cases this
          have HGOOD : Hid (fitsB k v = true → (vs.take (j + 1)).all (fitsB k) = true) := fun hf => by
            rw [List.take_add_one, HVK.out, List.all_append, HAL.out]
            simpa using hf
          have NL := fun w' => vnull_any v w'
          unfold Val.val at NL
          obtain ⟨nb, hnb⟩ : ∃ nb, nullB v = nb := ⟨_, rfl⟩
          rw [hnb] at NL
          have NL := hide NL
          clear hc hvk hat
          cases nb with
          | true =>
            have hk0 : kindV v = 0 := by unfold nullB at hnb; simpa using hnb
            have HK0 := hide hk0
            clear hk0 hnb
            go_upto_region 11 with (go_at_call 46; (with_reducible refine (NL.out _).mono ?_); rintro e w1 ⟨rfl, hs1⟩)
            have HOW := hide (HO1.out.fut (w' := w1.alloc (.cells #[.int .i64 1] 3)))
            have HN1 := hide (SlAt.one w1 1 [.int .i64 1] 3)
            go_wp2_with (at_builtin; go_loud (refine wpList_append_sl rfl (.tmp 35) (.tmp 36) 51 rfl eiInt (base := w.heap.size) (xs := intCells l) rfl HOW.out (int_fit _) (ys := [[.int .i64 1]]) rfl (by simp) HN1.out (int_fit [1]) (by rw [HIL.out]; show (_ + 1) * 8 ≤ _; omega) (fut w (w1.alloc (.cells #[.int .i64 1] 3))).size (N := j + 1) (by rw [HIL.out]; rfl) ?_; intro A7 c7 w7 hq1 hq2 hown7 hgr7 hbel7; have H7 := hide hown7; have hs7 : Step w w7 := ⟨(fut w (w1.alloc (.cells #[.int .i64 1] 3))).trans hbel7⟩; have HI := hide (HO2.out.fut (w' := w1.alloc (.cells #[.int .i64 1] 3))); have HI7 := hide (HI.out.grown_other hgr7 (own_ne HI.out HOW.out (by decide))); clear hown7 hgr7 hbel7))
            go_roundw
            case rel =>
              refine ⟨j + 1, m, A7, c7, l ++ [1], A2, c2, us, by omega, by omega, by go_num, by go_num, rfl, by show _ = _; rw [List.length_append, HLL.out]; rfl, HUL.out, ?_, HUB.out, HGOOD.out (fit_null HK0.out), by have h_ := H7.out; simpa [intCells] using h_, HI7.out, hs7⟩
              intro x hx
              rcases List.mem_append.1 hx with hx | hx
              · exact HLB.out x hx
              · simp at hx; omega
            case measure => simp [intOf]; omega
          | false =>
            have hk0 : kindV v ≠ 0 := by unfold nullB at hnb; simpa using hnb
            have HK0 := hide hk0
            clear hk0 hnb
            go_upto_region 12 with (go_at_call 46; (with_reducible refine (NL.out _).mono ?_); rintro e w1 ⟨rfl, hs1⟩)
            clear v0 v1 v2 v3 lb
            have hat_ := HAT.out w1; obtain ⟨v0, v1, v2, v3⟩ := At.l4 hat_; clear hat_
            have lb : b < w1.heap.size := by have := (fut wo w1).size; omega
            by_cases hkk : v.kind = k
            · by_cases hk33 : k = 3
              · subst hk33
                obtain ⟨hft, hcl⟩ := fit_text hkk
                by_cases hsz : v.s.size ≤ 64
                · have hszi : ¬ (64 : Int) < (v.s.size : Int) := by omega
                  obtain ⟨vb, hvb⟩ : ∃ vb, validB v.s = vb := ⟨_, rfl⟩
                  have RV := fun w' => rvalid_any v.s w' (by omega)
                  rw [hvb] at RV
                  have RV := hide RV
                  rw [hvb, decide_eq_true hsz, Bool.true_and] at hft
                  cases vb with
                  | true =>
                    have hsz2 : (clean v).s.size ≤ 64 := by rw [hcl]; exact hsz
                    have HF := hide (HGOOD.out hft); have HSZ2 := hide hsz2
                    clear hft hcl hvb hsz2
                    go_upto_region 14 with (go_at_call 47; (with_reducible refine (RV.out _).mono ?_); rintro e w2 ⟨rfl, hs2⟩)
                    clear v0 v1 v2 v3 lb
                    have hat_ := HAT.out w2
                    have CL := fun w' => vclean_any v w'
                    unfold Val.val at CL
                    rw [hkk] at CL
                    have CL := hide CL
                    have HOW := hide (HO1.out.fut (w' := w2.alloc (.cells #[.int .i64 0] 3)))
                    have HN1 := hide (SlAt.one w2 1 [.int .i64 0] 3)
                    clear hat_
                    go_wp2_with (first
                      | (at_builtin; refine wpList_append_sl rfl (.tmp 67) (.tmp 68) 51 rfl eiInt (base := w.heap.size) (xs := intCells l) rfl HOW.out (int_fit _) (ys := [[.int .i64 0]]) rfl (by simp) HN1.out (int_fit [0]) (by rw [HIL.out]; show (_ + 1) * 8 ≤ _; omega) (fut w (w2.alloc (.cells #[.int .i64 0] 3))).size (N := j + 1) (by rw [HIL.out]; rfl) ?_; intro A7 c7 w7 hq1 hq2 hown7 hgr7 hbel7; have H7 := hide hown7; have hs7 : Step w w7 := ⟨(fut w (w2.alloc (.cells #[.int .i64 0] 3))).trans hbel7⟩; have HI := hide (HO2.out.fut (w' := w2.alloc (.cells #[.int .i64 0] 3))); have HI7 := hide (HI.out.grown_other hgr7 (own_ne HI.out HOW.out (by decide))); clear hown7 hgr7 hbel7; have hat_ := HAT.out w7; obtain ⟨v0, v1, v2, v3⟩ := At.l4 hat_; have lb : b < w7.heap.size := (by have := hs7.size; omega); clear hat_)
                      | (go_at_call 25; go_loud ((with_reducible refine (CL.out _).mono ?_); rintro e w8 ⟨rfl, hs8⟩; have HOV := hide (HI7.out.fut (w' := w8.alloc (.cells #[.int .i64 (clean v).kind, .int .i64 (clean v).i, .bool (clean v).b, .string (clean v).s] 57))); have HN2 := hide (SlAt.one w8 4 [.int .i64 (clean v).kind, .int .i64 (clean v).i, .bool (clean v).b, .string (clean v).s] 57)))
                      | (at_builtin; go_loud (refine wpList_append_sl rfl (.tmp 70) (.tmp 76) 45 rfl eiV4 (base := w.heap.size) (xs := us.map Val.cells) rfl HOV.out (vals_fit _) (ys := [[.int .i64 (clean v).kind, .int .i64 (clean v).i, .bool (clean v).b, .string (clean v).s]]) rfl (by simp) HN2.out (vals_fit [clean v]) (by rw [HVL.out]; show (_ + 1) * 40 ≤ _; omega) (fut w (w8.alloc (.cells #[.int .i64 (clean v).kind, .int .i64 (clean v).i, .bool (clean v).b, .string (clean v).s] 57))).size (N := m + 1) (by rw [HVL.out]; rfl) ?_; intro A9 c9 w9 hq3 hq4 hown9 hgr9 hbel9; have H9 := hide hown9; have HJ := hide (H7.out.fut (w' := w8.alloc (.cells #[.int .i64 (clean v).kind, .int .i64 (clean v).i, .bool (clean v).b, .string (clean v).s] 57))); have HJ9 := hide (HJ.out.grown_other hgr9 (own_ne HJ.out HOV.out (by decide))); have hs9 : Step w w9 := ⟨(fut w (w8.alloc (.cells #[.int .i64 (clean v).kind, .int .i64 (clean v).i, .bool (clean v).b, .string (clean v).s] 57))).trans hbel9⟩; clear hown9 hgr9 hbel9)))
                    go_roundw
                    case rel =>
                      refine ⟨j + 1, m + 1, A7, c7, l ++ [0], A9, c9, us ++ [clean v], by omega, by omega, by go_num, by go_num, by go_num, by show _ = _; rw [List.length_append, HLL.out]; rfl, by show _ = _; rw [List.length_append, HUL.out]; rfl, ?_, ?_, HF.out, by have h_ := HJ9.out; simpa [intCells] using h_, by rw [List.map_append]; exact H9.out, hs9⟩
                      · intro x hx
                        rcases List.mem_append.1 hx with hx | hx
                        · exact HLB.out x hx
                        · simp at hx; omega
                      · intro x hx
                        rcases List.mem_append.1 hx with hx | hx
                        · exact HUB.out x hx
                        · simp at hx; rw [hx]; exact HSZ2.out
                    case measure => simp [intOf]; omega
                  | false =>
                    have HB_ := hide (HBAD.out hft)
                    clear hft hcl hvb
                    go_wp2_with (go_at_call 47; (with_reducible refine (RV.out _).mono ?_); rintro e w2 ⟨rfl, hs2⟩)
                    go_ret3
                    exact ⟨⟨#[]⟩, 0, 901, rfl, .bad (by omega) HB_.out, Step.of⟩
                · have hszi : (64 : Int) < (v.s.size : Int) := by omega
                  rw [decide_eq_false hsz, Bool.false_and] at hft
                  have HB_ := hide (HBAD.out hft)
                  clear hft hcl
                  go_wp2_with fail
                  go_ret3
                  exact ⟨⟨#[]⟩, 0, 901, rfl, .bad (by omega) HB_.out, Step.of⟩
              · have hk3b : (k == 3) = false := beq_eq_false_iff_ne.2 hk33
                obtain ⟨hft, hsz2⟩ := fit_plain HK0.out hkk hk33
                have HF := hide (HGOOD.out hft); have HSZ2 := hide hsz2
                clear hft hsz2
                go_upto_region 14 with (fail)
                clear v0 v1 v2 v3 lb
                have hat_ := HAT.out w1
                have CL := fun w' => vclean_any v w'
                unfold Val.val at CL
                rw [hkk] at CL
                have CL := hide CL
                have HOW := hide (HO1.out.fut (w' := w1.alloc (.cells #[.int .i64 0] 3)))
                have HN1 := hide (SlAt.one w1 1 [.int .i64 0] 3)
                clear hat_
                go_wp2_with (first
                  | (at_builtin; refine wpList_append_sl rfl (.tmp 67) (.tmp 68) 51 rfl eiInt (base := w.heap.size) (xs := intCells l) rfl HOW.out (int_fit _) (ys := [[.int .i64 0]]) rfl (by simp) HN1.out (int_fit [0]) (by rw [HIL.out]; show (_ + 1) * 8 ≤ _; omega) (fut w (w1.alloc (.cells #[.int .i64 0] 3))).size (N := j + 1) (by rw [HIL.out]; rfl) ?_; intro A7 c7 w7 hq1 hq2 hown7 hgr7 hbel7; have H7 := hide hown7; have hs7 : Step w w7 := ⟨(fut w (w1.alloc (.cells #[.int .i64 0] 3))).trans hbel7⟩; have HI := hide (HO2.out.fut (w' := w1.alloc (.cells #[.int .i64 0] 3))); have HI7 := hide (HI.out.grown_other hgr7 (own_ne HI.out HOW.out (by decide))); clear hown7 hgr7 hbel7; have hat_ := HAT.out w7; obtain ⟨v0, v1, v2, v3⟩ := At.l4 hat_; have lb : b < w7.heap.size := (by have := hs7.size; omega); clear hat_)
                  | (go_at_call 25; go_loud ((with_reducible refine (CL.out _).mono ?_); rintro e w8 ⟨rfl, hs8⟩; have HOV := hide (HI7.out.fut (w' := w8.alloc (.cells #[.int .i64 (clean v).kind, .int .i64 (clean v).i, .bool (clean v).b, .string (clean v).s] 57))); have HN2 := hide (SlAt.one w8 4 [.int .i64 (clean v).kind, .int .i64 (clean v).i, .bool (clean v).b, .string (clean v).s] 57)))
                  | (at_builtin; go_loud (refine wpList_append_sl rfl (.tmp 70) (.tmp 76) 45 rfl eiV4 (base := w.heap.size) (xs := us.map Val.cells) rfl HOV.out (vals_fit _) (ys := [[.int .i64 (clean v).kind, .int .i64 (clean v).i, .bool (clean v).b, .string (clean v).s]]) rfl (by simp) HN2.out (vals_fit [clean v]) (by rw [HVL.out]; show (_ + 1) * 40 ≤ _; omega) (fut w (w8.alloc (.cells #[.int .i64 (clean v).kind, .int .i64 (clean v).i, .bool (clean v).b, .string (clean v).s] 57))).size (N := m + 1) (by rw [HVL.out]; rfl) ?_; intro A9 c9 w9 hq3 hq4 hown9 hgr9 hbel9; have H9 := hide hown9; have HJ := hide (H7.out.fut (w' := w8.alloc (.cells #[.int .i64 (clean v).kind, .int .i64 (clean v).i, .bool (clean v).b, .string (clean v).s] 57))); have HJ9 := hide (HJ.out.grown_other hgr9 (own_ne HJ.out HOV.out (by decide))); have hs9 : Step w w9 := ⟨(fut w (w8.alloc (.cells #[.int .i64 (clean v).kind, .int .i64 (clean v).i, .bool (clean v).b, .string (clean v).s] 57))).trans hbel9⟩; clear hown9 hgr9 hbel9)))
                go_roundw
                case rel =>
                  refine ⟨j + 1, m + 1, A7, c7, l ++ [0], A9, c9, us ++ [clean v], by omega, by omega, by go_num, by go_num, by go_num, by show _ = _; rw [List.length_append, HLL.out]; rfl, by show _ = _; rw [List.length_append, HUL.out]; rfl, ?_, ?_, HF.out, by have h_ := HJ9.out; simpa [intCells] using h_, by rw [List.map_append]; exact H9.out, hs9⟩
                  · intro x hx
                    rcases List.mem_append.1 hx with hx | hx
                    · exact HLB.out x hx
                    · simp at hx; omega
                  · intro x hx
                    rcases List.mem_append.1 hx with hx | hx
                    · exact HUB.out x hx
                    · simp at hx; rw [hx]; exact HSZ2.out
                case measure => simp [intOf]; omega
            · have hkkb : (v.kind == k) = false := beq_eq_false_iff_ne.2 hkk
              have HB_ := hide (HBAD.out (fit_kind HK0.out hkk))
              go_wp2_with fail
              go_ret3
              exact ⟨⟨#[]⟩, 0, 901, rfl, .bad (by omega) HB_.out, Step.of⟩
        · obtain rfl : j = vs.length := by omega
          have hall : vs.all (fitsB k) = true := by have h_ := HAL.out; rw [List.take_length] at h_; exact h_
          have HALL := hide hall
          clear hall
          have HSV := hide (HO2.out.sl (vals_fit us).len)
          have HSI := hide (HO1.out.sl (int_fit l).len)
          have hm : m ≤ 4096 := by omega
          have WY := fun w' [Fut wo w'] => ways_any (w0 := wo) k us A2 c2 w' HSV.out (by rw [HUL.out]; exact hm) HUB.out
          rw [HUL.out] at WY
          have WY := hide WY
          have PK := fun w' [Fut wo w'] => pack_any (w0 := wo) l A1 c1 1 w' HSI.out (by rw [HLL.out]; exact hl) (by omega) (fun x hx => by have := HLB.out x hx; omega)
          rw [HLL.out] at PK
          simp only [show ((1 : Nat) : Int) = 1 from rfl] at PK
          have PK := hide PK
          go_upto_region 17 with (go_at_call 48; (with_reducible refine (WY.out _).mono ?_); rintro e w5 ⟨sa, sb, sc, rfl, hsa, hsb, hsc, hs5⟩)
          obtain ⟨wX, hwX⟩ : ∃ x, x = w5.alloc (.cells #[.string sa, .string sb, .string sc] 73) := ⟨_, rfl⟩
          have hBX : Blk wX w5.heap.size 73 [.string sa, .string sb, .string sc] := by rw [hwX]; exact Blk.new w5 [.string sa, .string sb, .string sc] 73
          have hs6 : Step wo wX := by rw [hwX]; exact Step.of
          rw [← hwX]
          clear hwX
          obtain ⟨g, hg⟩ : ∃ g, g = w5.heap.size := ⟨_, rfl⟩
          rw [← hg] at hBX ⊢
          clear hg
          have hgX : g < wX.heap.size := hBX.lt
          have HQ : Hid (∀ q : Nat, q ≤ 2 → ∃ s : ByteArray, s.size ≤ 400000 ∧ ∀ w' [Fut wX w'], w'.cell? ⟨g, q, none⟩ = some (.string s)) := fun q hq => by
            have h3 : q = 0 ∨ q = 1 ∨ q = 2 := by omega
            rcases h3 with rfl | rfl | rfl
            · exact ⟨sa, hsa, fun w' _ => (At.z3 (hBX.fut (w' := w')).at0).1⟩
            · exact ⟨sb, hsb, fun w' _ => (At.z3 (hBX.fut (w' := w')).at0).2.1⟩
            · exact ⟨sc, hsc, fun w' _ => (At.z3 (hBX.fut (w' := w')).at0).2.2⟩
          clear hBX hsa hsb hsc
          go_wp2_with fail
          go_loopw [11, 12] (fun qv pv wr => ∃ (q p : Nat), q ≤ 2 ∧ p ≤ 3 ∧ qv = .int .i64 q ∧ pv = .int .i64 p ∧ Step wX wr) (fun _ pv _ => 3 - (intOf pv).toNat)
          case atStart => exact ⟨0, 1, by omega, by omega, rfl, rfl, Step.of⟩
          case round =>
            obtain ⟨q, p, hq2, hp3, rfl, rfl, hst7⟩ := hrel
            obtain ⟨wq, rfl⟩ : ∃ x : World, x = wr := ⟨_, rfl⟩
            have hzq := hst7.size
            have lg : g < wq.heap.size := by omega
            have hq0 : (0 : Int) ≤ (q : Int) := by omega
            have hq3 : (q : Int) < 3 := by omega
            have hp0 : (0 : Int) ≤ (p : Int) := by omega
            obtain ⟨sq, hsq, HXQ⟩ := HQ.out q hq2
            have xq := HXQ wq
            by_cases hlt : p < 3
            · have hlti : (p : Int) < 3 := by omega
              obtain ⟨sp, hsp, HXP⟩ := HQ.out p (by omega)
              have xp := HXP wq
              have HXQ := hide HXQ; have HXP := hide HXP
              by_cases hss : sp.size < sq.size
              · go_wp2
                go_quiet (fail)
                go_wp2
                go_roundw
                case rel => exact ⟨p, p + 1, by omega, by omega, by go_num, by go_num, Step.of⟩
                case measure => simp [intOf]; omega
              · go_wp2
                go_quiet (fail)
                go_wp2
                go_roundw
                case rel => exact ⟨q, p + 1, by omega, by omega, by go_num, by go_num, Step.of⟩
                case measure => simp [intOf]; omega
            · obtain rfl : p = 3 := by omega
              have HXQ := hide HXQ
              clear xq
              go_upto_region 24 with (go_at_call 49; (with_reducible refine (PK.out _).mono ?_); rintro e w6 ⟨z, code, rfl, hz, hs8⟩)
              have lg6 : g < w6.heap.size := by have := (fut wX w6).size; omega
              have xq := HXQ.out w6
              have hwq : IntKind.u8.wrap (q : Int) = (q : Int) := by rw [IntKind.wrap_u8]; omega
              have hwm : (q : Int) % 256 = (q : Int) := by omega
              have VN := fun w' => varint_any (vs.length : Int) w' (by omega) (by omega)
              unfold Txt at VN
              have VN := hide VN
              have SE := fun (s : ByteArray) (w' : World) (h : s.size ≤ 1000000000) => seal_any s w' h
              unfold Txt at SE
              have SE := hide SE
              refine wp_region_held_drew (S := (fun w' => Step w6 w' ∧ (∀ b o, b < w6.heap.size → w'.cell? ⟨b, o, none⟩ = w6.cell? ⟨b, o, none⟩))) (by kernel_rfl) (by (try dsimp only); (first | exact ⟨hS1, hS2⟩ | exact ⟨Step.of, (bcell (fut _ _)).1⟩)) (fun hHeld => ?_)
              refine wpAnyH_take (i := 0) (oi := ⟨some 100, _, _, _, _, _⟩) (v := ?_) rfl (by kernel_rfl) (by kernel_rfl) (by kernel_rfl) (fun _ _ _ h => h) (Or.inl ⟨by rfl, ?_⟩) (by assumption) ?_
              rotate_left
              · ((intro w hSw); (try dsimp only at hSw); go_simp; (try with_reducible rfl))
              (try simp only [Act.put, List.setIfInBounds_toArray, List.set_cons_zero, List.set_cons_succ])
              refine wpAnyH_take (i := 4) (oi := ⟨some 104, _, _, _, _, _⟩) (v := ?_) rfl (by kernel_rfl) (by kernel_rfl) (by kernel_rfl) (fun _ _ _ h => h) (Or.inl ⟨by rfl, ?_⟩) (by assumption) ?_
              rotate_left
              · ((intro w hSw); (try dsimp only at hSw); go_simp; (try with_reducible rfl))
              (try simp only [Act.put, List.setIfInBounds_toArray, List.set_cons_zero, List.set_cons_succ])
              refine wpAnyH_take (i := 8) (oi := ⟨some 108, _, _, _, _, _⟩) (v := ?_) rfl (by kernel_rfl) (by kernel_rfl) (by kernel_rfl) (fun _ _ _ h => h) (Or.inl ⟨by rfl, ?_⟩) (by assumption) ?_
              rotate_left
              · ((intro w hSw); (try dsimp only at hSw); go_simp; (try with_reducible rfl))
              (try simp only [Act.put, List.setIfInBounds_toArray, List.set_cons_zero, List.set_cons_succ])
              refine wpAnyH_take (i := 10) (oi := ⟨some 110, _, _, _, _, _⟩) (v := ?_) rfl (by kernel_rfl) (by kernel_rfl) (by kernel_rfl) (fun _ _ _ h => h) (Or.inl ⟨by rfl, ?_⟩) (by assumption) ?_
              rotate_left
              · ((intro w hSw); (try dsimp only at hSw); go_simp; (try with_reducible rfl))
              (try simp only [Act.put, List.setIfInBounds_toArray, List.set_cons_zero, List.set_cons_succ])
              refine wpAnyH_take (i := 15) (oi := ⟨some 115, _, _, _, _, _⟩) (v := ?_) rfl (by kernel_rfl) (by kernel_rfl) (by kernel_rfl) (fun _ _ _ h => h) (Or.inl ⟨by rfl, ?_⟩) (by assumption) ?_
              rotate_left
              · ((intro w hSw); (try dsimp only at hSw); go_simp; (try with_reducible rfl))
              (try simp only [Act.put, List.setIfInBounds_toArray, List.set_cons_zero, List.set_cons_succ])
              refine wpAnyH_take (i := 1) (oi := ⟨some 101, _, _, _, _, _⟩) (v := ?_) rfl (by kernel_rfl) (by kernel_rfl) (by kernel_rfl) (fun _ _ _ h => h) (Or.inl ⟨by rfl, ?_⟩) (by assumption) ?_
              rotate_left
              · ((intro w hSw); (try dsimp only at hSw); go_simp; (try with_reducible rfl))
              (try simp only [Act.put, List.setIfInBounds_toArray, List.set_cons_zero, List.set_cons_succ])
              refine wpAnyH_take (i := 5) (oi := ⟨some 105, _, _, _, _, _⟩) (v := ?_) rfl (by kernel_rfl) (by kernel_rfl) (by kernel_rfl) (fun _ _ _ h => h) (Or.inl ⟨by rfl, ?_⟩) (by assumption) ?_
              rotate_left
              · ((intro w hSw); (try dsimp only at hSw); go_simp; (try with_reducible rfl))
              (try simp only [Act.put, List.setIfInBounds_toArray, List.set_cons_zero, List.set_cons_succ])
              refine wpAnyH_take (i := 11) (oi := ⟨some 111, _, _, _, _, _⟩) (v := ?_) rfl (by kernel_rfl) (by kernel_rfl) (by kernel_rfl) (fun _ _ _ h => h) (Or.inl ⟨by rfl, ?_⟩) (by assumption) ?_
              rotate_left
              · ((intro w hSw); (try dsimp only at hSw); go_simp; (try with_reducible rfl))
              (try simp only [Act.put, List.setIfInBounds_toArray, List.set_cons_zero, List.set_cons_succ])
              refine wpAnyH_take (i := 12) (oi := ⟨some 112, _, _, _, _, _⟩) (v := ?_) rfl (by kernel_rfl) (by kernel_rfl) (by kernel_rfl) (fun _ _ _ h => h) (Or.inl ⟨by rfl, ?_⟩) (by assumption) ?_
              rotate_left
              · ((intro w hSw); (try dsimp only at hSw); go_simp; (try with_reducible rfl))
              (try simp only [Act.put, List.setIfInBounds_toArray, List.set_cons_zero, List.set_cons_succ])
              refine wpAnyH_ready (rs := [2, 6]) (by kernel_rfl) (by simp) ?_
              refine AllReadyH.cons (o := ⟨some 102, _, _, _, _, _⟩) rfl (fun K hK => ?_) (AllReadyH.cons (o := ⟨some 106, _, _, _, _, _⟩) rfl (fun K hK => ?_) AllReadyH.nil)
              · (go_simp; first | have HBK : Hid (Blk (w8.alloc (.cells #[.int .u8 (q : Int)] 5)) w8.heap.size 5 (u8c [(q : Int)])) := Blk.new w8 (u8c [(q : Int)]) 5 | have HBK : Hid (Blk (w6.alloc (.cells #[.int .u8 (q : Int)] 5)) w6.heap.size 5 (u8c [(q : Int)])) := Blk.new w6 (u8c [(q : Int)]) 5)
                refine hK.out _ _ (by (try dsimp only); (exact ⟨Step.of, (bcell (fut _ _)).1⟩)) (fun hHeld => ?_)
                clear hK K
                (try simp only [Act.put, List.setIfInBounds_toArray, List.set_cons_zero, List.set_cons_succ])
                refine wpAnyH_ready (rs := [3, 6]) (by kernel_rfl) (by simp) ?_
                refine AllReadyH.cons (o := ⟨some 103, _, _, _, _, _⟩) rfl (fun K hK => ?_) (AllReadyH.cons (o := ⟨some 106, _, _, _, _, _⟩) rfl (fun K hK => ?_) AllReadyH.nil)
                · (first | (obtain ⟨b1, hb1, hcv⟩ := ints_conv (cap := 1) (n := 1) (HBK.out.fut (w' := w8)) rfl; have HB1 := hide hb1; clear hb1; go_simp; show K _ _; clear hcv; try (have hc7 : ¬ 9223372036854775807 < b1.size + t8.size := (by have := HB1.out; omega); have hc9 : ¬ 9223372036854775807 < b1.size + t8.size + z.size := (by have := HB1.out; omega); have hc13 : ¬ 9223372036854775807 < b1.size + t8.size + z.size + sq.size := (by have := HB1.out; omega))) | (obtain ⟨b1, hb1, hcv⟩ := ints_conv (cap := 1) (n := 1) (HBK.out.drew) rfl; have HB1 := hide hb1; clear hb1; go_simp; show K _ _; clear hcv; try (have hc7 : ¬ 9223372036854775807 < b1.size + t8.size := (by have := HB1.out; omega); have hc9 : ¬ 9223372036854775807 < b1.size + t8.size + z.size := (by have := HB1.out; omega); have hc13 : ¬ 9223372036854775807 < b1.size + t8.size + z.size + sq.size := (by have := HB1.out; omega))) | (obtain ⟨b1, hb1, hcv⟩ := ints_conv (cap := 1) (n := 1) (HBK.out) rfl; have HB1 := hide hb1; clear hb1; go_simp; show K _ _; clear hcv; try (have hc7 : ¬ 9223372036854775807 < b1.size + t8.size := (by have := HB1.out; omega); have hc9 : ¬ 9223372036854775807 < b1.size + t8.size + z.size := (by have := HB1.out; omega); have hc13 : ¬ 9223372036854775807 < b1.size + t8.size + z.size + sq.size := (by have := HB1.out; omega))) | (obtain ⟨b1, hb1, hcv⟩ := ints_conv (cap := 1) (n := 1) (HBK.out.fut (w' := w8.drew)) rfl; have HB1 := hide hb1; clear hb1; go_simp; show K _ _; clear hcv; try (have hc7 : ¬ 9223372036854775807 < b1.size + t8.size := (by have := HB1.out; omega); have hc9 : ¬ 9223372036854775807 < b1.size + t8.size + z.size := (by have := HB1.out; omega); have hc13 : ¬ 9223372036854775807 < b1.size + t8.size + z.size + sq.size := (by have := HB1.out; omega))) | (obtain ⟨b1, hb1, hcv⟩ := ints_conv (cap := 1) (n := 1) (HBK.out.drew.drew) rfl; have HB1 := hide hb1; clear hb1; go_simp; show K _ _; clear hcv; try (have hc7 : ¬ 9223372036854775807 < b1.size + t8.size := (by have := HB1.out; omega); have hc9 : ¬ 9223372036854775807 < b1.size + t8.size + z.size := (by have := HB1.out; omega); have hc13 : ¬ 9223372036854775807 < b1.size + t8.size + z.size + sq.size := (by have := HB1.out; omega))))
                  refine hK.out _ _ (by (try dsimp only); (first | exact ⟨hS1, hS2⟩ | exact ⟨Step.of, (bcell (fut _ _)).1⟩)) (fun hHeld => ?_)
                  clear hK K
                  (try simp only [Act.put, List.setIfInBounds_toArray, List.set_cons_zero, List.set_cons_succ])
                  refine wpAnyH_ready (rs := [6]) (by kernel_rfl) (by simp) ?_
                  refine AllReadyH.cons (o := ⟨some 106, _, _, _, _, _⟩) rfl (fun K hK => ?_) AllReadyH.nil
                  obtain ⟨hS1, hS2⟩ := hHeld
                  go_simp
                  (go_at_call 51; (with_reducible refine (VN.out _).mono ?_); rintro e w8 ⟨t8, rfl, ht8, hs9⟩; try (have hc7 : ¬ 9223372036854775807 < b1.size + t8.size := (by have := HB1.out; omega); have hc9 : ¬ 9223372036854775807 < b1.size + t8.size + z.size := (by have := HB1.out; omega); have hc13 : ¬ 9223372036854775807 < b1.size + t8.size + z.size + sq.size := (by have := HB1.out; omega)))
                  refine hK.out _ _ (by (try dsimp only); (first | exact ⟨hS1, hS2⟩ | exact ⟨Step.of, (bcell (fut _ _)).1⟩)) (fun hHeld => ?_)
                  clear hK K
                  (try simp only [Act.put, List.setIfInBounds_toArray, List.set_cons_zero, List.set_cons_succ])
                  refine wpAnyH_take (i := 7) (oi := ⟨some 107, _, _, _, _, _⟩) (v := ?_) rfl (by kernel_rfl) (by kernel_rfl) (by kernel_rfl) (fun _ _ _ h => h) (Or.inl ⟨by rfl, ?_⟩) (by assumption) ?_
                  rotate_left
                  · ((intro w hSw); (try dsimp only at hSw); go_simp; (try with_reducible rfl))
                  (try simp only [Act.put, List.setIfInBounds_toArray, List.set_cons_zero, List.set_cons_succ])
                  refine wpAnyH_take (i := 9) (oi := ⟨some 109, _, _, _, _, _⟩) (v := ?_) rfl (by kernel_rfl) (by kernel_rfl) (by kernel_rfl) (fun _ _ _ h => h) (Or.inl ⟨by rfl, ?_⟩) (by assumption) ?_
                  rotate_left
                  · ((intro w hSw); (try dsimp only at hSw); go_simp; (try with_reducible rfl))
                  (try simp only [Act.put, List.setIfInBounds_toArray, List.set_cons_zero, List.set_cons_succ])
                  refine wpAnyH_take (i := 13) (oi := ⟨some 113, _, _, _, _, _⟩) (v := ?_) rfl (by kernel_rfl) (by kernel_rfl) (by kernel_rfl) (fun _ _ _ h => h) (Or.inl ⟨by rfl, ?_⟩) (by assumption) ?_
                  rotate_left
                  · ((intro w hSw); (try dsimp only at hSw); go_simp; (try with_reducible rfl))
                  (try simp only [Act.put, List.setIfInBounds_toArray, List.set_cons_zero, List.set_cons_succ])
                  refine wpAnyH_ready (rs := [14]) (by kernel_rfl) (by simp) ?_
                  refine AllReadyH.cons (o := ⟨some 114, _, _, _, _, _⟩) rfl (fun K hK => ?_) AllReadyH.nil
                  obtain ⟨hS1, hS2⟩ := hHeld
                  go_simp
                  (go_at_call 50; (with_reducible refine (SE.out _ _ (by simp only [ByteArray.size_append]; have := HB1.out; omega)).mono ?_); rintro e w9 ⟨t9, rfl, ht9, hs10⟩)
                  refine hK.out _ _ (by (try dsimp only); (first | exact ⟨hS1, hS2⟩ | exact ⟨Step.of, (bcell (fut _ _)).1⟩)) (fun hHeld => ?_)
                  clear hK K
                  (try simp only [Act.put, List.setIfInBounds_toArray, List.set_cons_zero, List.set_cons_succ])
                  refine wpAnyH_take (i := 16) (oi := ⟨some 4, _, _, _, _, _⟩) (v := ?_) rfl (by kernel_rfl) (by kernel_rfl) (by kernel_rfl) (fun _ _ _ h => h) (Or.inl ⟨by rfl, ?_⟩) (by assumption) ?_
                  rotate_left
                  · ((intro w hSw); (try dsimp only at hSw); go_simp; (try with_reducible rfl))
                  (try simp only [Act.put, List.setIfInBounds_toArray, List.set_cons_zero, List.set_cons_succ])
                  refine wpAnyH_take (i := 17) (oi := ⟨some 5, _, _, _, _, _⟩) (v := ?_) rfl (by kernel_rfl) (by kernel_rfl) (by kernel_rfl) (fun _ _ _ h => h) (Or.inl ⟨by rfl, ?_⟩) (by assumption) ?_
                  rotate_left
                  · ((intro w hSw); (try dsimp only at hSw); go_simp; (try with_reducible rfl))
                  (try simp only [Act.put, List.setIfInBounds_toArray, List.set_cons_zero, List.set_cons_succ])
                  refine wpAnyH_take (i := 18) (oi := ⟨some 6, _, _, _, _, _⟩) (v := ?_) rfl (by kernel_rfl) (by kernel_rfl) (by kernel_rfl) (fun _ _ _ h => h) (Or.inl ⟨by rfl, ?_⟩) (by assumption) ?_
                  rotate_left
                  · ((intro w hSw); (try dsimp only at hSw); go_simp; (try with_reducible rfl))
                  (try simp only [Act.put, List.setIfInBounds_toArray, List.set_cons_zero, List.set_cons_succ])
                  refine wpAnyH_done (by kernel_rfl) ?_ _
                  go_wp2_with fail
                  go_ret3
                  exact ⟨t9, q, 0, rfl, .good HKB.out HALL.out, Step.of⟩
                · obtain ⟨hS1, hS2⟩ := hHeld
                  go_simp
                  (go_at_call 51; (with_reducible refine (VN.out _).mono ?_); rintro e w8 ⟨t8, rfl, ht8, hs9⟩; try (have hc7 : ¬ 9223372036854775807 < b1.size + t8.size := (by have := HB1.out; omega); have hc9 : ¬ 9223372036854775807 < b1.size + t8.size + z.size := (by have := HB1.out; omega); have hc13 : ¬ 9223372036854775807 < b1.size + t8.size + z.size + sq.size := (by have := HB1.out; omega)))
                  refine hK.out _ _ (by (try dsimp only); (first | exact ⟨hS1, hS2⟩ | exact ⟨Step.of, (bcell (fut _ _)).1⟩)) (fun hHeld => ?_)
                  clear hK K
                  (try simp only [Act.put, List.setIfInBounds_toArray, List.set_cons_zero, List.set_cons_succ])
                  refine wpAnyH_ready (rs := [3]) (by kernel_rfl) (by simp) ?_
                  refine AllReadyH.cons (o := ⟨some 103, _, _, _, _, _⟩) rfl (fun K hK => ?_) AllReadyH.nil
                  (first | (obtain ⟨b1, hb1, hcv⟩ := ints_conv (cap := 1) (n := 1) (HBK.out.fut (w' := w8)) rfl; have HB1 := hide hb1; clear hb1; go_simp; show K _ _; clear hcv; try (have hc7 : ¬ 9223372036854775807 < b1.size + t8.size := (by have := HB1.out; omega); have hc9 : ¬ 9223372036854775807 < b1.size + t8.size + z.size := (by have := HB1.out; omega); have hc13 : ¬ 9223372036854775807 < b1.size + t8.size + z.size + sq.size := (by have := HB1.out; omega))) | (obtain ⟨b1, hb1, hcv⟩ := ints_conv (cap := 1) (n := 1) (HBK.out.drew) rfl; have HB1 := hide hb1; clear hb1; go_simp; show K _ _; clear hcv; try (have hc7 : ¬ 9223372036854775807 < b1.size + t8.size := (by have := HB1.out; omega); have hc9 : ¬ 9223372036854775807 < b1.size + t8.size + z.size := (by have := HB1.out; omega); have hc13 : ¬ 9223372036854775807 < b1.size + t8.size + z.size + sq.size := (by have := HB1.out; omega))) | (obtain ⟨b1, hb1, hcv⟩ := ints_conv (cap := 1) (n := 1) (HBK.out) rfl; have HB1 := hide hb1; clear hb1; go_simp; show K _ _; clear hcv; try (have hc7 : ¬ 9223372036854775807 < b1.size + t8.size := (by have := HB1.out; omega); have hc9 : ¬ 9223372036854775807 < b1.size + t8.size + z.size := (by have := HB1.out; omega); have hc13 : ¬ 9223372036854775807 < b1.size + t8.size + z.size + sq.size := (by have := HB1.out; omega))) | (obtain ⟨b1, hb1, hcv⟩ := ints_conv (cap := 1) (n := 1) (HBK.out.fut (w' := w8.drew)) rfl; have HB1 := hide hb1; clear hb1; go_simp; show K _ _; clear hcv; try (have hc7 : ¬ 9223372036854775807 < b1.size + t8.size := (by have := HB1.out; omega); have hc9 : ¬ 9223372036854775807 < b1.size + t8.size + z.size := (by have := HB1.out; omega); have hc13 : ¬ 9223372036854775807 < b1.size + t8.size + z.size + sq.size := (by have := HB1.out; omega))) | (obtain ⟨b1, hb1, hcv⟩ := ints_conv (cap := 1) (n := 1) (HBK.out.drew.drew) rfl; have HB1 := hide hb1; clear hb1; go_simp; show K _ _; clear hcv; try (have hc7 : ¬ 9223372036854775807 < b1.size + t8.size := (by have := HB1.out; omega); have hc9 : ¬ 9223372036854775807 < b1.size + t8.size + z.size := (by have := HB1.out; omega); have hc13 : ¬ 9223372036854775807 < b1.size + t8.size + z.size + sq.size := (by have := HB1.out; omega))))
                  refine hK.out _ _ (by (try dsimp only); (first | exact ⟨hS1, hS2⟩ | exact ⟨Step.of, (bcell (fut _ _)).1⟩)) (fun hHeld => ?_)
                  clear hK K
                  (try simp only [Act.put, List.setIfInBounds_toArray, List.set_cons_zero, List.set_cons_succ])
                  refine wpAnyH_take (i := 7) (oi := ⟨some 107, _, _, _, _, _⟩) (v := ?_) rfl (by kernel_rfl) (by kernel_rfl) (by kernel_rfl) (fun _ _ _ h => h) (Or.inl ⟨by rfl, ?_⟩) (by assumption) ?_
                  rotate_left
                  · ((intro w hSw); (try dsimp only at hSw); go_simp; (try with_reducible rfl))
                  (try simp only [Act.put, List.setIfInBounds_toArray, List.set_cons_zero, List.set_cons_succ])
                  refine wpAnyH_take (i := 9) (oi := ⟨some 109, _, _, _, _, _⟩) (v := ?_) rfl (by kernel_rfl) (by kernel_rfl) (by kernel_rfl) (fun _ _ _ h => h) (Or.inl ⟨by rfl, ?_⟩) (by assumption) ?_
                  rotate_left
                  · ((intro w hSw); (try dsimp only at hSw); go_simp; (try with_reducible rfl))
                  (try simp only [Act.put, List.setIfInBounds_toArray, List.set_cons_zero, List.set_cons_succ])
                  refine wpAnyH_take (i := 13) (oi := ⟨some 113, _, _, _, _, _⟩) (v := ?_) rfl (by kernel_rfl) (by kernel_rfl) (by kernel_rfl) (fun _ _ _ h => h) (Or.inl ⟨by rfl, ?_⟩) (by assumption) ?_
                  rotate_left
                  · ((intro w hSw); (try dsimp only at hSw); go_simp; (try with_reducible rfl))
                  (try simp only [Act.put, List.setIfInBounds_toArray, List.set_cons_zero, List.set_cons_succ])
                  refine wpAnyH_ready (rs := [14]) (by kernel_rfl) (by simp) ?_
                  refine AllReadyH.cons (o := ⟨some 114, _, _, _, _, _⟩) rfl (fun K hK => ?_) AllReadyH.nil
                  obtain ⟨hS1, hS2⟩ := hHeld
                  go_simp
                  (go_at_call 50; (with_reducible refine (SE.out _ _ (by simp only [ByteArray.size_append]; have := HB1.out; omega)).mono ?_); rintro e w9 ⟨t9, rfl, ht9, hs10⟩)
                  refine hK.out _ _ (by (try dsimp only); (first | exact ⟨hS1, hS2⟩ | exact ⟨Step.of, (bcell (fut _ _)).1⟩)) (fun hHeld => ?_)
                  clear hK K
                  (try simp only [Act.put, List.setIfInBounds_toArray, List.set_cons_zero, List.set_cons_succ])
                  refine wpAnyH_take (i := 16) (oi := ⟨some 4, _, _, _, _, _⟩) (v := ?_) rfl (by kernel_rfl) (by kernel_rfl) (by kernel_rfl) (fun _ _ _ h => h) (Or.inl ⟨by rfl, ?_⟩) (by assumption) ?_
                  rotate_left
                  · ((intro w hSw); (try dsimp only at hSw); go_simp; (try with_reducible rfl))
                  (try simp only [Act.put, List.setIfInBounds_toArray, List.set_cons_zero, List.set_cons_succ])
                  refine wpAnyH_take (i := 17) (oi := ⟨some 5, _, _, _, _, _⟩) (v := ?_) rfl (by kernel_rfl) (by kernel_rfl) (by kernel_rfl) (fun _ _ _ h => h) (Or.inl ⟨by rfl, ?_⟩) (by assumption) ?_
                  rotate_left
                  · ((intro w hSw); (try dsimp only at hSw); go_simp; (try with_reducible rfl))
                  (try simp only [Act.put, List.setIfInBounds_toArray, List.set_cons_zero, List.set_cons_succ])
                  refine wpAnyH_take (i := 18) (oi := ⟨some 6, _, _, _, _, _⟩) (v := ?_) rfl (by kernel_rfl) (by kernel_rfl) (by kernel_rfl) (fun _ _ _ h => h) (Or.inl ⟨by rfl, ?_⟩) (by assumption) ?_
                  rotate_left
                  · ((intro w hSw); (try dsimp only at hSw); go_simp; (try with_reducible rfl))
                  (try simp only [Act.put, List.setIfInBounds_toArray, List.set_cons_zero, List.set_cons_succ])
                  refine wpAnyH_done (by kernel_rfl) ?_ _
                  go_wp2_with fail
                  go_ret3
                  exact ⟨t9, q, 0, rfl, .good HKB.out HALL.out, Step.of⟩
              · obtain ⟨hS1, hS2⟩ := hHeld
                go_simp
                (go_at_call 51; (with_reducible refine (VN.out _).mono ?_); rintro e w8 ⟨t8, rfl, ht8, hs9⟩; try (have hc7 : ¬ 9223372036854775807 < b1.size + t8.size := (by have := HB1.out; omega); have hc9 : ¬ 9223372036854775807 < b1.size + t8.size + z.size := (by have := HB1.out; omega); have hc13 : ¬ 9223372036854775807 < b1.size + t8.size + z.size + sq.size := (by have := HB1.out; omega)))
                refine hK.out _ _ (by (try dsimp only); (first | exact ⟨hS1, hS2⟩ | exact ⟨Step.of, (bcell (fut _ _)).1⟩)) (fun hHeld => ?_)
                clear hK K
                (try simp only [Act.put, List.setIfInBounds_toArray, List.set_cons_zero, List.set_cons_succ])
                refine wpAnyH_ready (rs := [2]) (by kernel_rfl) (by simp) ?_
                refine AllReadyH.cons (o := ⟨some 102, _, _, _, _, _⟩) rfl (fun K hK => ?_) AllReadyH.nil
                (go_simp; first | have HBK : Hid (Blk (w8.alloc (.cells #[.int .u8 (q : Int)] 5)) w8.heap.size 5 (u8c [(q : Int)])) := Blk.new w8 (u8c [(q : Int)]) 5 | have HBK : Hid (Blk (w6.alloc (.cells #[.int .u8 (q : Int)] 5)) w6.heap.size 5 (u8c [(q : Int)])) := Blk.new w6 (u8c [(q : Int)]) 5)
                refine hK.out _ _ (by (try dsimp only); (exact ⟨Step.of, (bcell (fut _ _)).1⟩)) (fun hHeld => ?_)
                clear hK K
                (try simp only [Act.put, List.setIfInBounds_toArray, List.set_cons_zero, List.set_cons_succ])
                refine wpAnyH_ready (rs := [3]) (by kernel_rfl) (by simp) ?_
                refine AllReadyH.cons (o := ⟨some 103, _, _, _, _, _⟩) rfl (fun K hK => ?_) AllReadyH.nil
                (first | (obtain ⟨b1, hb1, hcv⟩ := ints_conv (cap := 1) (n := 1) (HBK.out.fut (w' := w8)) rfl; have HB1 := hide hb1; clear hb1; go_simp; show K _ _; clear hcv; try (have hc7 : ¬ 9223372036854775807 < b1.size + t8.size := (by have := HB1.out; omega); have hc9 : ¬ 9223372036854775807 < b1.size + t8.size + z.size := (by have := HB1.out; omega); have hc13 : ¬ 9223372036854775807 < b1.size + t8.size + z.size + sq.size := (by have := HB1.out; omega))) | (obtain ⟨b1, hb1, hcv⟩ := ints_conv (cap := 1) (n := 1) (HBK.out.drew) rfl; have HB1 := hide hb1; clear hb1; go_simp; show K _ _; clear hcv; try (have hc7 : ¬ 9223372036854775807 < b1.size + t8.size := (by have := HB1.out; omega); have hc9 : ¬ 9223372036854775807 < b1.size + t8.size + z.size := (by have := HB1.out; omega); have hc13 : ¬ 9223372036854775807 < b1.size + t8.size + z.size + sq.size := (by have := HB1.out; omega))) | (obtain ⟨b1, hb1, hcv⟩ := ints_conv (cap := 1) (n := 1) (HBK.out) rfl; have HB1 := hide hb1; clear hb1; go_simp; show K _ _; clear hcv; try (have hc7 : ¬ 9223372036854775807 < b1.size + t8.size := (by have := HB1.out; omega); have hc9 : ¬ 9223372036854775807 < b1.size + t8.size + z.size := (by have := HB1.out; omega); have hc13 : ¬ 9223372036854775807 < b1.size + t8.size + z.size + sq.size := (by have := HB1.out; omega))) | (obtain ⟨b1, hb1, hcv⟩ := ints_conv (cap := 1) (n := 1) (HBK.out.fut (w' := w8.drew)) rfl; have HB1 := hide hb1; clear hb1; go_simp; show K _ _; clear hcv; try (have hc7 : ¬ 9223372036854775807 < b1.size + t8.size := (by have := HB1.out; omega); have hc9 : ¬ 9223372036854775807 < b1.size + t8.size + z.size := (by have := HB1.out; omega); have hc13 : ¬ 9223372036854775807 < b1.size + t8.size + z.size + sq.size := (by have := HB1.out; omega))) | (obtain ⟨b1, hb1, hcv⟩ := ints_conv (cap := 1) (n := 1) (HBK.out.drew.drew) rfl; have HB1 := hide hb1; clear hb1; go_simp; show K _ _; clear hcv; try (have hc7 : ¬ 9223372036854775807 < b1.size + t8.size := (by have := HB1.out; omega); have hc9 : ¬ 9223372036854775807 < b1.size + t8.size + z.size := (by have := HB1.out; omega); have hc13 : ¬ 9223372036854775807 < b1.size + t8.size + z.size + sq.size := (by have := HB1.out; omega))))
                refine hK.out _ _ (by (try dsimp only); (first | exact ⟨hS1, hS2⟩ | exact ⟨Step.of, (bcell (fut _ _)).1⟩)) (fun hHeld => ?_)
                clear hK K
                (try simp only [Act.put, List.setIfInBounds_toArray, List.set_cons_zero, List.set_cons_succ])
                refine wpAnyH_take (i := 7) (oi := ⟨some 107, _, _, _, _, _⟩) (v := ?_) rfl (by kernel_rfl) (by kernel_rfl) (by kernel_rfl) (fun _ _ _ h => h) (Or.inl ⟨by rfl, ?_⟩) (by assumption) ?_
                rotate_left
                · ((intro w hSw); (try dsimp only at hSw); go_simp; (try with_reducible rfl))
                (try simp only [Act.put, List.setIfInBounds_toArray, List.set_cons_zero, List.set_cons_succ])
                refine wpAnyH_take (i := 9) (oi := ⟨some 109, _, _, _, _, _⟩) (v := ?_) rfl (by kernel_rfl) (by kernel_rfl) (by kernel_rfl) (fun _ _ _ h => h) (Or.inl ⟨by rfl, ?_⟩) (by assumption) ?_
                rotate_left
                · ((intro w hSw); (try dsimp only at hSw); go_simp; (try with_reducible rfl))
                (try simp only [Act.put, List.setIfInBounds_toArray, List.set_cons_zero, List.set_cons_succ])
                refine wpAnyH_take (i := 13) (oi := ⟨some 113, _, _, _, _, _⟩) (v := ?_) rfl (by kernel_rfl) (by kernel_rfl) (by kernel_rfl) (fun _ _ _ h => h) (Or.inl ⟨by rfl, ?_⟩) (by assumption) ?_
                rotate_left
                · ((intro w hSw); (try dsimp only at hSw); go_simp; (try with_reducible rfl))
                (try simp only [Act.put, List.setIfInBounds_toArray, List.set_cons_zero, List.set_cons_succ])
                refine wpAnyH_ready (rs := [14]) (by kernel_rfl) (by simp) ?_
                refine AllReadyH.cons (o := ⟨some 114, _, _, _, _, _⟩) rfl (fun K hK => ?_) AllReadyH.nil
                obtain ⟨hS1, hS2⟩ := hHeld
                go_simp
                (go_at_call 50; (with_reducible refine (SE.out _ _ (by simp only [ByteArray.size_append]; have := HB1.out; omega)).mono ?_); rintro e w9 ⟨t9, rfl, ht9, hs10⟩)
                refine hK.out _ _ (by (try dsimp only); (first | exact ⟨hS1, hS2⟩ | exact ⟨Step.of, (bcell (fut _ _)).1⟩)) (fun hHeld => ?_)
                clear hK K
                (try simp only [Act.put, List.setIfInBounds_toArray, List.set_cons_zero, List.set_cons_succ])
                refine wpAnyH_take (i := 16) (oi := ⟨some 4, _, _, _, _, _⟩) (v := ?_) rfl (by kernel_rfl) (by kernel_rfl) (by kernel_rfl) (fun _ _ _ h => h) (Or.inl ⟨by rfl, ?_⟩) (by assumption) ?_
                rotate_left
                · ((intro w hSw); (try dsimp only at hSw); go_simp; (try with_reducible rfl))
                (try simp only [Act.put, List.setIfInBounds_toArray, List.set_cons_zero, List.set_cons_succ])
                refine wpAnyH_take (i := 17) (oi := ⟨some 5, _, _, _, _, _⟩) (v := ?_) rfl (by kernel_rfl) (by kernel_rfl) (by kernel_rfl) (fun _ _ _ h => h) (Or.inl ⟨by rfl, ?_⟩) (by assumption) ?_
                rotate_left
                · ((intro w hSw); (try dsimp only at hSw); go_simp; (try with_reducible rfl))
                (try simp only [Act.put, List.setIfInBounds_toArray, List.set_cons_zero, List.set_cons_succ])
                refine wpAnyH_take (i := 18) (oi := ⟨some 6, _, _, _, _, _⟩) (v := ?_) rfl (by kernel_rfl) (by kernel_rfl) (by kernel_rfl) (fun _ _ _ h => h) (Or.inl ⟨by rfl, ?_⟩) (by assumption) ?_
                rotate_left
                · ((intro w hSw); (try dsimp only at hSw); go_simp; (try with_reducible rfl))
                (try simp only [Act.put, List.setIfInBounds_toArray, List.set_cons_zero, List.set_cons_succ])
                refine wpAnyH_done (by kernel_rfl) ?_ _
                go_wp2_with fail
                go_ret3
                exact ⟨t9, q, 0, rfl, .good HKB.out HALL.out, Step.of⟩
end Go.Proofs.YtinpnginjpfbpaaDoor
