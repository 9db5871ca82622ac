/-
  The document's Build: that it answers, and how much it gives.
-/
import Derived.Test.YtinpnginjpfbpaaDoorVe
namespace Go.Proofs.YtinpnginjpfbpaaDoor
open Go.RowKit

set_option maxRecDepth 100000 in
set_option maxHeartbeats 8000000 in
theorem build_any {w0 : World} (vs : List Val) (Av : Option Addr) (cv : Nat) (w : World) (hv : SlAt w0 w0.heap.size 4 Av (vs.map Val.cells)) [f0 : Fut w0 w] (hl : vs.length ≤ 4096) (hvs : ∀ v ∈ vs, v.s.size ≤ 1000000) :
    Calls Tryd.prog 63 #[.slice Av vs.length cv] w fun e w' => ∃ (A1 : Option Addr) (c1 : Nat) (us : List Val) (A2 : Option Addr) (c2 : Nat) (ats : List Int), e = .returned (.tuple #[.slice A1 us.length c1, .slice A2 ats.length c2]) ∧ us.length ≤ vs.length ∧ ats.length = vs.length ∧ (∀ x ∈ ats, 0 ≤ x ∧ x ≤ 4096) ∧ (∀ u ∈ us, ∃ v ∈ vs, u = clean v) ∧ Own w' w.heap.size 57 4 (.slice A1 us.length c1) (us.map Val.cells) ∧ Own w' w.heap.size 3 1 (.slice A2 ats.length c2) (intCells ats) ∧ Step w w' := by
  have z0 := f0.below.size
  have HVS := hide hvs
  clear hvs
  go_enter Tryd.func63, Tryd.ntmps63
  go_wp2_with fail
  go_loopw [4, 5, 6, 7] (fun uv mv iv _ wr => ∃ (j m : Nat) (A1 : Option Addr) (c1 : Nat) (us : List Val) (A2 : Option Addr) (c2 : Nat) (ms : List Int), j ≤ vs.length ∧ iv = .int .i64 j ∧ uv = .slice A1 m c1 ∧ mv = .slice A2 j c2 ∧ Hid (us.length = m) ∧ Hid (ms.length = j) ∧ m ≤ j ∧ Hid (∀ x ∈ ms, 0 ≤ x ∧ x ≤ 4096) ∧ Hid (∀ u ∈ us, ∃ v ∈ vs, u = clean v) ∧ Own wr w.heap.size 57 4 (.slice A1 m c1) (us.map Val.cells) ∧ Own wr w.heap.size 3 1 (.slice A2 j c2) (intCells ms) ∧ Step w wr) (fun _ _ iv _ _ => vs.length - (intOf iv).toNat)
  case atStart => exact ⟨0, 0, none, 0, [], none, 0, [], Nat.zero_le _, rfl, rfl, rfl, rfl, rfl, Nat.le_refl _, fun x hx => by simp at hx, fun u hu => by simp at hu, Own.nil_ _ _ _ _, Own.nil_ _ _ _ _, Step.of⟩
  case round =>
    obtain ⟨j, m, A1, c1, us, A2, c2, ms, hj, rfl, rfl, rfl, HUL, HML, hmj, HMS, HUS, ho1, ho2, hst⟩ := hrel
    have HO1 := hide ho1; have HO2 := hide ho2
    clear ho1 ho2
    obtain ⟨wo, rfl⟩ : ∃ x : World, x = wr := ⟨_, rfl⟩
    have hzo := hst.size
    by_cases hlt : j < vs.length
    · obtain ⟨b, off, rfl, hb, hc⟩ := hv.elem (w' := wo) inferInstance (k := j) (by simpa using hlt)
      obtain ⟨v, hvk⟩ : ∃ v, vs[j]? = some v := ⟨_, List.getElem?_eq_getElem hlt⟩
      have hjl : (j : Int) < (vs.length : Int) := by omega
      have hj0 : (0 : Int) ≤ (j : Int) := by omega
      have hvm := HVS.out v (List.mem_of_getElem? hvk)
      have HVK := hide hvk
      have HAT : Hid (∀ w' [Fut w0 w'], At w' b (off + j * 4) v.cells) := by
        intro w' _
        obtain ⟨b', off', e_, _, hc'⟩ := hv.elem (w' := w') inferInstance (k := j) (by simpa using hlt)
        cases e_
        exact hc' j v.cells (by simp [HVK.out])
      have HIL : Hid ((intCells ms).length = j) := by show _ = _; rw [intCells_len, HML.out]
      have HVL : Hid ((us.map Val.cells).length = m) := by show _ = _; rw [List.length_map, HUL.out]
      clear hc hvk
      go_wp2_with fail
      go_loopw [7] (fun kv wr => ∃ q : Nat, q ≤ m ∧ kv = .int .i64 q ∧ Step wo wr) (fun kv _ => m - (intOf kv).toNat)
      case atStart => exact ⟨0, Nat.zero_le _, rfl, Step.of⟩
      case round =>
        obtain ⟨q, hq, rfl, hst2⟩ := hrel
        obtain ⟨wk, rfl⟩ : ∃ x : World, x = wr := ⟨_, rfl⟩
        have hzk := hst2.size
        have hat_ := HAT.out wk; obtain ⟨v0, v1, v2, v3⟩ := At.l4 hat_; clear hat_
        have lb : b < wk.heap.size := by omega
        have hq0 : (0 : Int) ≤ (q : Int) := by omega
        by_cases hqm : q < m
        · have hqi : (q : Int) < (m : Int) := by omega
          have hqne : ((q : Int) == (m : Int)) = false := beq_eq_false_iff_ne.2 (by omega)
          obtain ⟨u, hu⟩ : ∃ u, us[q]? = some u := ⟨_, List.getElem?_eq_getElem (by have := HUL.out; omega)⟩
          have HK1 := hide (HO1.out.fut (w' := wk))
          obtain ⟨g2, rfl, hg2, hgl2, hat2, hfr2, _⟩ := HK1.out.put (vals_fit us).len (k := q) (j := 0) (cs := u.cells) (by simp [hu]) (by decide)
          obtain ⟨u0, u1, u2, u3⟩ := At.l4 hat2
          have hum : u.s.size ≤ 9223372036854775807 := by
            obtain ⟨v', hv', rfl⟩ := HUS.out u (List.mem_of_getElem? hu)
            have h1 := HVS.out v' hv'
            rcases clean_s_le v' with h | h <;> omega
          obtain ⟨cm, hcm⟩ : ∃ cm, cmpV u v = cm := ⟨_, rfl⟩
          have RC := fun w' => rcmp_any u v w' hum (by omega)
          rw [hcm] at RC
          unfold Val.val at RC
          have RC := hide RC
          clear hu hat2 hfr2 hcm
          by_cases hc0 : cm = 0
          · subst hc0
            go_upto_region 7 with (fail)
            refine wp_region_held_drew (S := (fun w' => Step wk w' ∧ (∀ b o, b < wk.heap.size → w'.cell? ⟨b, o, none⟩ = wk.cell? ⟨b, o, none⟩))) (by kernel_rfl) (by (try dsimp only); (first | exact ⟨hS1, hS2⟩ | exact ⟨Step.of, (bcell (fut _ _)).1⟩)) (fun hHeld => ?_)
            refine wpAnyH_take (i := 0) (oi := ⟨some 14, _, _, _, _, _⟩) (v := ?_) rfl (by kernel_rfl) (by kernel_rfl) (by kernel_rfl) (fun _ _ _ h => h) (Or.inl ⟨by rfl, ?_⟩) (by assumption) ?_
            rotate_left
            · ((intro w hSw); (try dsimp only at hSw); go_simp; (try with_reducible rfl))
            (try simp only [Act.put, List.setIfInBounds_toArray, List.set_cons_zero, List.set_cons_succ])
            refine wpAnyH_take (i := 1) (oi := ⟨some 15, _, _, _, _, _⟩) (v := ?_) rfl (by kernel_rfl) (by kernel_rfl) (by kernel_rfl) (fun _ _ _ h => h) (Or.inl ⟨by rfl, ?_⟩) (by assumption) ?_
            rotate_left
            · ((intro w hSw); (try dsimp only at hSw); go_simp; (try with_reducible rfl))
            (try simp only [Act.put, List.setIfInBounds_toArray, List.set_cons_zero, List.set_cons_succ])
            refine wpAnyH_take (i := 2) (oi := ⟨some 16, _, _, _, _, _⟩) (v := ?_) rfl (by kernel_rfl) (by kernel_rfl) (by kernel_rfl) (fun _ _ _ h => h) (Or.inl ⟨by rfl, ?_⟩) (by assumption) ?_
            rotate_left
            · ((intro w hSw); (try dsimp only at hSw); go_simp; (try with_reducible rfl))
            (try simp only [Act.put, List.setIfInBounds_toArray, List.set_cons_zero, List.set_cons_succ])
            refine wpAnyH_take (i := 3) (oi := ⟨some 17, _, _, _, _, _⟩) (v := ?_) rfl (by kernel_rfl) (by kernel_rfl) (by kernel_rfl) (fun _ _ _ h => h) (Or.inl ⟨by rfl, ?_⟩) (by assumption) ?_
            rotate_left
            · ((intro w hSw); (try dsimp only at hSw); go_simp; (try with_reducible rfl))
            (try simp only [Act.put, List.setIfInBounds_toArray, List.set_cons_zero, List.set_cons_succ])
            refine wpAnyH_take (i := 4) (oi := ⟨some 18, _, _, _, _, _⟩) (v := ?_) rfl (by kernel_rfl) (by kernel_rfl) (by kernel_rfl) (fun _ _ _ h => h) (Or.inl ⟨by rfl, ?_⟩) (by assumption) ?_
            rotate_left
            · ((intro w hSw); (try dsimp only at hSw); go_simp; (try with_reducible rfl))
            (try simp only [Act.put, List.setIfInBounds_toArray, List.set_cons_zero, List.set_cons_succ])
            refine wpAnyH_take (i := 5) (oi := ⟨some 19, _, _, _, _, _⟩) (v := ?_) rfl (by kernel_rfl) (by kernel_rfl) (by kernel_rfl) (fun _ _ _ h => h) (Or.inl ⟨by rfl, ?_⟩) (by assumption) ?_
            rotate_left
            · ((intro w hSw); (try dsimp only at hSw); go_simp; (try with_reducible rfl))
            (try simp only [Act.put, List.setIfInBounds_toArray, List.set_cons_zero, List.set_cons_succ])
            refine wpAnyH_take (i := 6) (oi := ⟨some 20, _, _, _, _, _⟩) (v := ?_) rfl (by kernel_rfl) (by kernel_rfl) (by kernel_rfl) (fun _ _ _ h => h) (Or.inl ⟨by rfl, ?_⟩) (by assumption) ?_
            rotate_left
            · ((intro w hSw); (try dsimp only at hSw); go_simp; (try with_reducible rfl))
            (try simp only [Act.put, List.setIfInBounds_toArray, List.set_cons_zero, List.set_cons_succ])
            refine wpAnyH_take (i := 9) (oi := ⟨some 23, _, _, _, _, _⟩) (v := ?_) rfl (by kernel_rfl) (by kernel_rfl) (by kernel_rfl) (fun _ _ _ h => h) (Or.inl ⟨by rfl, ?_⟩) (by assumption) ?_
            rotate_left
            · ((intro w hSw); (try dsimp only at hSw); go_simp; (try with_reducible rfl))
            (try simp only [Act.put, List.setIfInBounds_toArray, List.set_cons_zero, List.set_cons_succ])
            refine wpAnyH_take (i := 10) (oi := ⟨some 24, _, _, _, _, _⟩) (v := ?_) rfl (by kernel_rfl) (by kernel_rfl) (by kernel_rfl) (fun _ _ _ h => h) (Or.inl ⟨by rfl, ?_⟩) (by assumption) ?_
            rotate_left
            · ((intro w hSw); (try dsimp only at hSw); go_simp; (try with_reducible rfl))
            (try simp only [Act.put, List.setIfInBounds_toArray, List.set_cons_zero, List.set_cons_succ])
            refine wpAnyH_take (i := 7) (oi := ⟨some 21, _, _, _, _, _⟩) (v := ?_) rfl (by kernel_rfl) (by kernel_rfl) (by kernel_rfl) (fun _ _ _ h => h) (Or.inl ⟨by rfl, ?_⟩) (by assumption) ?_
            rotate_left
            · ((intro w hSw); (try dsimp only at hSw); go_simp; (try with_reducible rfl))
            (try simp only [Act.put, List.setIfInBounds_toArray, List.set_cons_zero, List.set_cons_succ])
            refine wpAnyH_take (i := 11) (oi := ⟨some 25, _, _, _, _, _⟩) (v := ?_) rfl (by kernel_rfl) (by kernel_rfl) (by kernel_rfl) (fun _ _ _ h => h) (Or.inl ⟨by rfl, ?_⟩) (by assumption) ?_
            rotate_left
            · ((intro w hSw); (try dsimp only at hSw); go_simp; (try with_reducible rfl))
            (try simp only [Act.put, List.setIfInBounds_toArray, List.set_cons_zero, List.set_cons_succ])
            refine wpAnyH_take (i := 8) (oi := ⟨some 22, _, _, _, _, _⟩) (v := ?_) rfl (by kernel_rfl) (by kernel_rfl) (by kernel_rfl) (fun _ _ _ h => h) (Or.inl ⟨by rfl, ?_⟩) (by assumption) ?_
            rotate_left
            · ((intro w hSw); (try dsimp only at hSw); go_simp; (try with_reducible rfl))
            (try simp only [Act.put, List.setIfInBounds_toArray, List.set_cons_zero, List.set_cons_succ])
            refine wpAnyH_take (i := 12) (oi := ⟨some 26, _, _, _, _, _⟩) (v := ?_) rfl (by kernel_rfl) (by kernel_rfl) (by kernel_rfl) (fun _ _ _ h => h) (Or.inl ⟨by rfl, ?_⟩) (by assumption) ?_
            rotate_left
            · ((intro w hSw); (try dsimp only at hSw); go_simp; (try with_reducible rfl))
            (try simp only [Act.put, List.setIfInBounds_toArray, List.set_cons_zero, List.set_cons_succ])
            refine wpAnyH_ready (rs := [13]) (by kernel_rfl) (by simp) ?_
            refine AllReadyH.cons (o := ⟨some 27, _, _, _, _, _⟩) rfl (fun K hK => ?_) AllReadyH.nil
            obtain ⟨hS1, hS2⟩ := hHeld
            go_simp
            (go_at_call 74; (with_reducible refine (RC.out _).mono ?_); rintro e w5 ⟨rfl, hs5⟩)
            refine hK.out _ _ (by (try dsimp only); (first | exact ⟨hS1, hS2⟩ | exact ⟨Step.of, (bcell (fut _ _)).1⟩)) (fun hHeld => ?_)
            clear hK K
            (try simp only [Act.put, List.setIfInBounds_toArray, List.set_cons_zero, List.set_cons_succ])
            refine wpAnyH_take (i := 14) (oi := ⟨some 28, _, _, _, _, _⟩) (v := ?_) rfl (by kernel_rfl) (by kernel_rfl) (by kernel_rfl) (fun _ _ _ h => h) (Or.inl ⟨by rfl, ?_⟩) (by assumption) ?_
            rotate_left
            · ((intro w hSw); (try dsimp only at hSw); go_simp; (try with_reducible rfl))
            (try simp only [Act.put, List.setIfInBounds_toArray, List.set_cons_zero, List.set_cons_succ])
            refine wpAnyH_take (i := 15) (oi := ⟨some 29, _, _, _, _, _⟩) (v := ?_) rfl (by kernel_rfl) (by kernel_rfl) (by kernel_rfl) (fun _ _ _ h => h) (Or.inl ⟨by rfl, ?_⟩) (by assumption) ?_
            rotate_left
            · ((intro w hSw); (try dsimp only at hSw); go_simp; (try with_reducible rfl))
            (try simp only [Act.put, List.setIfInBounds_toArray, List.set_cons_zero, List.set_cons_succ])
            refine wpAnyH_done (by kernel_rfl) ?_ _
            clear hHeld u0 u1 u2 u3 v0 v1 v2 v3 lb
            have HN1 := hide (SlAt.one w5 1 [.int .i64 (q : Int)] 3)
            have HOD := hide (HO2.out.fut (w' := w5.alloc (.cells #[.int .i64 (q : Int)] 3)))
            go_wp2_with (at_builtin; go_loud (refine wpList_append_sl rfl (.tmp 44) (.tmp 46) 51 rfl eiInt (base := w.heap.size) (xs := intCells ms) rfl HOD.out (int_fit _) (ys := [[.int .i64 (q : Int)]]) rfl (by simp) HN1.out (int_fit [(q : Int)]) (by rw [HIL.out]; show (_ + 1) * 8 ≤ _; omega) (fut w (w5.alloc (.cells #[.int .i64 (q : Int)] 3))).size (N := j + 1) (by rw [HIL.out]; rfl) ?_; intro A7 c7 w7 hq1 hq2 hown7 hgr7 hbel7; have H7 := hide hown7; have hs7 : Step w w7 := ⟨(fut w (w5.alloc (.cells #[.int .i64 (q : Int)] 3))).trans hbel7⟩; have HU := hide (HO1.out.fut (w' := w5.alloc (.cells #[.int .i64 (q : Int)] 3))); have HU7 := hide (HU.out.grown_other hgr7 (own_ne HU.out HOD.out (by decide))); clear hown7 hgr7 hbel7))
            go_roundw
            case rel =>
              refine ⟨j + 1, m, some ⟨g2, 0, none⟩, c1, us, A7, c7, ms ++ [(q : Int)], by omega, by go_num, rfl, by go_num, HUL.out, by show _ = _; rw [List.length_append, HML.out]; rfl, by omega, ?_, HUS.out, HU7.out, by have h_ := H7.out; simpa [intCells] using h_, hs7⟩
              intro x hx
              rcases List.mem_append.1 hx with hx | hx
              · exact HMS.out x hx
              · simp at hx; omega
            case measure => simp [intOf]; omega
          · have hc0b : (cm == 0) = false := beq_eq_false_iff_ne.2 hc0
            go_upto_region 7 with (fail)
            refine wp_region_held_drew (S := (fun w' => Step wk w' ∧ (∀ b o, b < wk.heap.size → w'.cell? ⟨b, o, none⟩ = wk.cell? ⟨b, o, none⟩))) (by kernel_rfl) (by (try dsimp only); (first | exact ⟨hS1, hS2⟩ | exact ⟨Step.of, (bcell (fut _ _)).1⟩)) (fun hHeld => ?_)
            refine wpAnyH_take (i := 0) (oi := ⟨some 14, _, _, _, _, _⟩) (v := ?_) rfl (by kernel_rfl) (by kernel_rfl) (by kernel_rfl) (fun _ _ _ h => h) (Or.inl ⟨by rfl, ?_⟩) (by assumption) ?_
            rotate_left
            · ((intro w hSw); (try dsimp only at hSw); go_simp; (try with_reducible rfl))
            (try simp only [Act.put, List.setIfInBounds_toArray, List.set_cons_zero, List.set_cons_succ])
            refine wpAnyH_take (i := 1) (oi := ⟨some 15, _, _, _, _, _⟩) (v := ?_) rfl (by kernel_rfl) (by kernel_rfl) (by kernel_rfl) (fun _ _ _ h => h) (Or.inl ⟨by rfl, ?_⟩) (by assumption) ?_
            rotate_left
            · ((intro w hSw); (try dsimp only at hSw); go_simp; (try with_reducible rfl))
            (try simp only [Act.put, List.setIfInBounds_toArray, List.set_cons_zero, List.set_cons_succ])
            refine wpAnyH_take (i := 2) (oi := ⟨some 16, _, _, _, _, _⟩) (v := ?_) rfl (by kernel_rfl) (by kernel_rfl) (by kernel_rfl) (fun _ _ _ h => h) (Or.inl ⟨by rfl, ?_⟩) (by assumption) ?_
            rotate_left
            · ((intro w hSw); (try dsimp only at hSw); go_simp; (try with_reducible rfl))
            (try simp only [Act.put, List.setIfInBounds_toArray, List.set_cons_zero, List.set_cons_succ])
            refine wpAnyH_take (i := 3) (oi := ⟨some 17, _, _, _, _, _⟩) (v := ?_) rfl (by kernel_rfl) (by kernel_rfl) (by kernel_rfl) (fun _ _ _ h => h) (Or.inl ⟨by rfl, ?_⟩) (by assumption) ?_
            rotate_left
            · ((intro w hSw); (try dsimp only at hSw); go_simp; (try with_reducible rfl))
            (try simp only [Act.put, List.setIfInBounds_toArray, List.set_cons_zero, List.set_cons_succ])
            refine wpAnyH_take (i := 4) (oi := ⟨some 18, _, _, _, _, _⟩) (v := ?_) rfl (by kernel_rfl) (by kernel_rfl) (by kernel_rfl) (fun _ _ _ h => h) (Or.inl ⟨by rfl, ?_⟩) (by assumption) ?_
            rotate_left
            · ((intro w hSw); (try dsimp only at hSw); go_simp; (try with_reducible rfl))
            (try simp only [Act.put, List.setIfInBounds_toArray, List.set_cons_zero, List.set_cons_succ])
            refine wpAnyH_take (i := 5) (oi := ⟨some 19, _, _, _, _, _⟩) (v := ?_) rfl (by kernel_rfl) (by kernel_rfl) (by kernel_rfl) (fun _ _ _ h => h) (Or.inl ⟨by rfl, ?_⟩) (by assumption) ?_
            rotate_left
            · ((intro w hSw); (try dsimp only at hSw); go_simp; (try with_reducible rfl))
            (try simp only [Act.put, List.setIfInBounds_toArray, List.set_cons_zero, List.set_cons_succ])
            refine wpAnyH_take (i := 6) (oi := ⟨some 20, _, _, _, _, _⟩) (v := ?_) rfl (by kernel_rfl) (by kernel_rfl) (by kernel_rfl) (fun _ _ _ h => h) (Or.inl ⟨by rfl, ?_⟩) (by assumption) ?_
            rotate_left
            · ((intro w hSw); (try dsimp only at hSw); go_simp; (try with_reducible rfl))
            (try simp only [Act.put, List.setIfInBounds_toArray, List.set_cons_zero, List.set_cons_succ])
            refine wpAnyH_take (i := 9) (oi := ⟨some 23, _, _, _, _, _⟩) (v := ?_) rfl (by kernel_rfl) (by kernel_rfl) (by kernel_rfl) (fun _ _ _ h => h) (Or.inl ⟨by rfl, ?_⟩) (by assumption) ?_
            rotate_left
            · ((intro w hSw); (try dsimp only at hSw); go_simp; (try with_reducible rfl))
            (try simp only [Act.put, List.setIfInBounds_toArray, List.set_cons_zero, List.set_cons_succ])
            refine wpAnyH_take (i := 10) (oi := ⟨some 24, _, _, _, _, _⟩) (v := ?_) rfl (by kernel_rfl) (by kernel_rfl) (by kernel_rfl) (fun _ _ _ h => h) (Or.inl ⟨by rfl, ?_⟩) (by assumption) ?_
            rotate_left
            · ((intro w hSw); (try dsimp only at hSw); go_simp; (try with_reducible rfl))
            (try simp only [Act.put, List.setIfInBounds_toArray, List.set_cons_zero, List.set_cons_succ])
            refine wpAnyH_take (i := 7) (oi := ⟨some 21, _, _, _, _, _⟩) (v := ?_) rfl (by kernel_rfl) (by kernel_rfl) (by kernel_rfl) (fun _ _ _ h => h) (Or.inl ⟨by rfl, ?_⟩) (by assumption) ?_
            rotate_left
            · ((intro w hSw); (try dsimp only at hSw); go_simp; (try with_reducible rfl))
            (try simp only [Act.put, List.setIfInBounds_toArray, List.set_cons_zero, List.set_cons_succ])
            refine wpAnyH_take (i := 11) (oi := ⟨some 25, _, _, _, _, _⟩) (v := ?_) rfl (by kernel_rfl) (by kernel_rfl) (by kernel_rfl) (fun _ _ _ h => h) (Or.inl ⟨by rfl, ?_⟩) (by assumption) ?_
            rotate_left
            · ((intro w hSw); (try dsimp only at hSw); go_simp; (try with_reducible rfl))
            (try simp only [Act.put, List.setIfInBounds_toArray, List.set_cons_zero, List.set_cons_succ])
            refine wpAnyH_take (i := 8) (oi := ⟨some 22, _, _, _, _, _⟩) (v := ?_) rfl (by kernel_rfl) (by kernel_rfl) (by kernel_rfl) (fun _ _ _ h => h) (Or.inl ⟨by rfl, ?_⟩) (by assumption) ?_
            rotate_left
            · ((intro w hSw); (try dsimp only at hSw); go_simp; (try with_reducible rfl))
            (try simp only [Act.put, List.setIfInBounds_toArray, List.set_cons_zero, List.set_cons_succ])
            refine wpAnyH_take (i := 12) (oi := ⟨some 26, _, _, _, _, _⟩) (v := ?_) rfl (by kernel_rfl) (by kernel_rfl) (by kernel_rfl) (fun _ _ _ h => h) (Or.inl ⟨by rfl, ?_⟩) (by assumption) ?_
            rotate_left
            · ((intro w hSw); (try dsimp only at hSw); go_simp; (try with_reducible rfl))
            (try simp only [Act.put, List.setIfInBounds_toArray, List.set_cons_zero, List.set_cons_succ])
            refine wpAnyH_ready (rs := [13]) (by kernel_rfl) (by simp) ?_
            refine AllReadyH.cons (o := ⟨some 27, _, _, _, _, _⟩) rfl (fun K hK => ?_) AllReadyH.nil
            obtain ⟨hS1, hS2⟩ := hHeld
            go_simp
            (go_at_call 74; (with_reducible refine (RC.out _).mono ?_); rintro e w5 ⟨rfl, hs5⟩)
            refine hK.out _ _ (by (try dsimp only); (first | exact ⟨hS1, hS2⟩ | exact ⟨Step.of, (bcell (fut _ _)).1⟩)) (fun hHeld => ?_)
            clear hK K
            (try simp only [Act.put, List.setIfInBounds_toArray, List.set_cons_zero, List.set_cons_succ])
            refine wpAnyH_take (i := 14) (oi := ⟨some 28, _, _, _, _, _⟩) (v := ?_) rfl (by kernel_rfl) (by kernel_rfl) (by kernel_rfl) (fun _ _ _ h => h) (Or.inl ⟨by rfl, ?_⟩) (by assumption) ?_
            rotate_left
            · ((intro w hSw); (try dsimp only at hSw); go_simp; (try with_reducible rfl))
            (try simp only [Act.put, List.setIfInBounds_toArray, List.set_cons_zero, List.set_cons_succ])
            refine wpAnyH_take (i := 15) (oi := ⟨some 29, _, _, _, _, _⟩) (v := ?_) rfl (by kernel_rfl) (by kernel_rfl) (by kernel_rfl) (fun _ _ _ h => h) (Or.inl ⟨by rfl, ?_⟩) (by assumption) ?_
            rotate_left
            · ((intro w hSw); (try dsimp only at hSw); go_simp; (try with_reducible rfl))
            (try simp only [Act.put, List.setIfInBounds_toArray, List.set_cons_zero, List.set_cons_succ])
            refine wpAnyH_done (by kernel_rfl) ?_ _
            clear hHeld u0 u1 u2 u3 v0 v1 v2 v3 lb
            go_wp2_with fail
            go_roundw
            case rel => exact ⟨q + 1, by omega, by go_num, Step.of⟩
            case measure => simp [intOf]; omega
        · obtain rfl : q = m := by omega
          go_upto_region 7 with (fail)
          refine wp_region_held_drew (S := (fun w' => Step wk w' ∧ (∀ b o, b < wk.heap.size → w'.cell? ⟨b, o, none⟩ = wk.cell? ⟨b, o, none⟩))) (by kernel_rfl) (by (try dsimp only); (first | exact ⟨hS1, hS2⟩ | exact ⟨Step.of, (bcell (fut _ _)).1⟩)) (fun hHeld => ?_)
          refine wpAnyH_take (i := 0) (oi := ⟨some 14, _, _, _, _, _⟩) (v := ?_) rfl (by kernel_rfl) (by kernel_rfl) (by kernel_rfl) (fun _ _ _ h => h) (Or.inl ⟨by rfl, ?_⟩) (by assumption) ?_
          rotate_left
          · ((intro w hSw); (try dsimp only at hSw); go_simp; (try with_reducible rfl))
          (try simp only [Act.put, List.setIfInBounds_toArray, List.set_cons_zero, List.set_cons_succ])
          refine wpAnyH_take (i := 1) (oi := ⟨some 15, _, _, _, _, _⟩) (v := ?_) rfl (by kernel_rfl) (by kernel_rfl) (by kernel_rfl) (fun _ _ _ h => h) (Or.inl ⟨by rfl, ?_⟩) (by assumption) ?_
          rotate_left
          · ((intro w hSw); (try dsimp only at hSw); go_simp; (try with_reducible rfl))
          (try simp only [Act.put, List.setIfInBounds_toArray, List.set_cons_zero, List.set_cons_succ])
          refine wpAnyH_take (i := 2) (oi := ⟨some 16, _, _, _, _, _⟩) (v := ?_) rfl (by kernel_rfl) (by kernel_rfl) (by kernel_rfl) (fun _ _ _ h => h) (Or.inl ⟨by rfl, ?_⟩) (by assumption) ?_
          rotate_left
          · ((intro w hSw); (try dsimp only at hSw); go_simp; (try with_reducible rfl))
          (try simp only [Act.put, List.setIfInBounds_toArray, List.set_cons_zero, List.set_cons_succ])
          refine wpAnyH_take (i := 3) (oi := ⟨some 17, _, _, _, _, _⟩) (v := ?_) rfl (by kernel_rfl) (by kernel_rfl) (by kernel_rfl) (fun _ _ _ h => h) (Or.inl ⟨by rfl, ?_⟩) (by assumption) ?_
          rotate_left
          · ((intro w hSw); (try dsimp only at hSw); go_simp; (try with_reducible rfl))
          (try simp only [Act.put, List.setIfInBounds_toArray, List.set_cons_zero, List.set_cons_succ])
          refine wpAnyH_take (i := 4) (oi := ⟨some 18, _, _, _, _, _⟩) (v := ?_) rfl (by kernel_rfl) (by kernel_rfl) (by kernel_rfl) (fun _ _ _ h => h) (Or.inl ⟨by rfl, ?_⟩) (by assumption) ?_
          rotate_left
          · ((intro w hSw); (try dsimp only at hSw); go_simp; (try with_reducible rfl))
          (try simp only [Act.put, List.setIfInBounds_toArray, List.set_cons_zero, List.set_cons_succ])
          refine wpAnyH_take (i := 5) (oi := ⟨some 19, _, _, _, _, _⟩) (v := undef) rfl (by kernel_rfl) (by kernel_rfl) (by kernel_rfl) (fun _ _ _ h => h) (Or.inr ⟨by rfl, rfl⟩) (by assumption) ?_
          (try simp only [Act.put, List.setIfInBounds_toArray, List.set_cons_zero, List.set_cons_succ])
          refine wpAnyH_take (i := 6) (oi := ⟨some 20, _, _, _, _, _⟩) (v := undef) rfl (by kernel_rfl) (by kernel_rfl) (by kernel_rfl) (fun _ _ _ h => h) (Or.inr ⟨by rfl, rfl⟩) (by assumption) ?_
          (try simp only [Act.put, List.setIfInBounds_toArray, List.set_cons_zero, List.set_cons_succ])
          refine wpAnyH_take (i := 9) (oi := ⟨some 23, _, _, _, _, _⟩) (v := undef) rfl (by kernel_rfl) (by kernel_rfl) (by kernel_rfl) (fun _ _ _ h => h) (Or.inr ⟨by rfl, rfl⟩) (by assumption) ?_
          (try simp only [Act.put, List.setIfInBounds_toArray, List.set_cons_zero, List.set_cons_succ])
          refine wpAnyH_take (i := 10) (oi := ⟨some 24, _, _, _, _, _⟩) (v := undef) rfl (by kernel_rfl) (by kernel_rfl) (by kernel_rfl) (fun _ _ _ h => h) (Or.inr ⟨by rfl, rfl⟩) (by assumption) ?_
          (try simp only [Act.put, List.setIfInBounds_toArray, List.set_cons_zero, List.set_cons_succ])
          refine wpAnyH_take (i := 7) (oi := ⟨some 21, _, _, _, _, _⟩) (v := undef) rfl (by kernel_rfl) (by kernel_rfl) (by kernel_rfl) (fun _ _ _ h => h) (Or.inr ⟨by rfl, rfl⟩) (by assumption) ?_
          (try simp only [Act.put, List.setIfInBounds_toArray, List.set_cons_zero, List.set_cons_succ])
          refine wpAnyH_take (i := 11) (oi := ⟨some 25, _, _, _, _, _⟩) (v := undef) rfl (by kernel_rfl) (by kernel_rfl) (by kernel_rfl) (fun _ _ _ h => h) (Or.inr ⟨by rfl, rfl⟩) (by assumption) ?_
          (try simp only [Act.put, List.setIfInBounds_toArray, List.set_cons_zero, List.set_cons_succ])
          refine wpAnyH_take (i := 8) (oi := ⟨some 22, _, _, _, _, _⟩) (v := undef) rfl (by kernel_rfl) (by kernel_rfl) (by kernel_rfl) (fun _ _ _ h => h) (Or.inr ⟨by rfl, rfl⟩) (by assumption) ?_
          (try simp only [Act.put, List.setIfInBounds_toArray, List.set_cons_zero, List.set_cons_succ])
          refine wpAnyH_take (i := 12) (oi := ⟨some 26, _, _, _, _, _⟩) (v := undef) rfl (by kernel_rfl) (by kernel_rfl) (by kernel_rfl) (fun _ _ _ h => h) (Or.inr ⟨by rfl, rfl⟩) (by assumption) ?_
          (try simp only [Act.put, List.setIfInBounds_toArray, List.set_cons_zero, List.set_cons_succ])
          refine wpAnyH_take (i := 13) (oi := ⟨some 27, _, _, _, _, _⟩) (v := undef) rfl (by kernel_rfl) (by kernel_rfl) (by kernel_rfl) (fun _ _ _ h => h) (Or.inr ⟨by rfl, rfl⟩) (by assumption) ?_
          (try simp only [Act.put, List.setIfInBounds_toArray, List.set_cons_zero, List.set_cons_succ])
          refine wpAnyH_take (i := 14) (oi := ⟨some 28, _, _, _, _, _⟩) (v := undef) rfl (by kernel_rfl) (by kernel_rfl) (by kernel_rfl) (fun _ _ _ h => h) (Or.inr ⟨by rfl, rfl⟩) (by assumption) ?_
          (try simp only [Act.put, List.setIfInBounds_toArray, List.set_cons_zero, List.set_cons_succ])
          refine wpAnyH_take (i := 15) (oi := ⟨some 29, _, _, _, _, _⟩) (v := ?_) rfl (by kernel_rfl) (by kernel_rfl) (by kernel_rfl) (fun _ _ _ h => h) (Or.inl ⟨by rfl, ?_⟩) (by assumption) ?_
          rotate_left
          · ((intro w hSw); (try dsimp only at hSw); go_simp; (try with_reducible rfl))
          (try simp only [Act.put, List.setIfInBounds_toArray, List.set_cons_zero, List.set_cons_succ])
          refine wpAnyH_done (by kernel_rfl) ?_ _
          clear hHeld
          obtain ⟨wd, hwd⟩ : ∃ wd, wd = wk.drew := ⟨_, rfl⟩
          have SD : Step wk wd := by rw [hwd]; exact ⟨(Below.refl _ _).drew⟩
          rw [← hwd]
          clear hwd v0 v1 v2 v3
          have hat_ := HAT.out wd; obtain ⟨v0, v1, v2, v3⟩ := At.l4 hat_; clear hat_
          have lb : b < wd.heap.size := by have := SD.size; omega
          have CL := fun w' => vclean_any v w'
          unfold Val.val at CL
          have CL := hide CL
          go_wp2_with (first
            | (go_at_call 25; (with_reducible refine (CL.out _).mono ?_); rintro e w8 ⟨rfl, hs8⟩; have HOW := hide (HO1.out.fut (w' := w8.alloc (.cells #[.int .i64 (clean v).kind, .int .i64 (clean v).i, .bool (clean v).b, .string (clean v).s] 57))); have HN2 := hide (SlAt.one w8 4 [.int .i64 (clean v).kind, .int .i64 (clean v).i, .bool (clean v).b, .string (clean v).s] 57))
            | (at_builtin; refine wpList_append_sl rfl (.tmp 36) (.tmp 42) 45 rfl eiV4 (base := w.heap.size) (xs := us.map Val.cells) rfl HOW.out (vals_fit _) (ys := [[.int .i64 (clean v).kind, .int .i64 (clean v).i, .bool (clean v).b, .string (clean v).s]]) rfl (by simp) HN2.out (vals_fit [clean v]) (by rw [HVL.out]; show (_ + 1) * 40 ≤ _; omega) (fut w (w8.alloc (.cells #[.int .i64 (clean v).kind, .int .i64 (clean v).i, .bool (clean v).b, .string (clean v).s] 57))).size (N := q + 1) (by rw [HVL.out]; rfl) ?_; intro A9 c9 w9 hq3 hq4 hown9 hgr9 hbel9; have H9 := hide hown9; have HI := hide (HO2.out.fut (w' := w8.alloc (.cells #[.int .i64 (clean v).kind, .int .i64 (clean v).i, .bool (clean v).b, .string (clean v).s] 57))); have HI9 := hide (HI.out.grown_other hgr9 (own_ne HI.out HOW.out (by decide))); have hs9 : Step w w9 := ⟨(fut w (w8.alloc (.cells #[.int .i64 (clean v).kind, .int .i64 (clean v).i, .bool (clean v).b, .string (clean v).s] 57))).trans hbel9⟩; clear hown9 hgr9 hbel9; have HOD := hide (HI9.out.fut (w' := w9.alloc (.cells #[.int .i64 (q : Int)] 3))); have HN1 := hide (SlAt.one w9 1 [.int .i64 (q : Int)] 3))
            | (at_builtin; go_loud (refine wpList_append_sl rfl (.tmp 44) (.tmp 46) 51 rfl eiInt (base := w.heap.size) (xs := intCells ms) rfl HOD.out (int_fit _) (ys := [[.int .i64 (q : Int)]]) rfl (by simp) HN1.out (int_fit [(q : Int)]) (by rw [HIL.out]; show (_ + 1) * 8 ≤ _; omega) (fut w (w9.alloc (.cells #[.int .i64 (q : Int)] 3))).size (N := j + 1) (by rw [HIL.out]; rfl) ?_; intro A7 c7 w7 hq1 hq2 hown7 hgr7 hbel7; have H7 := hide hown7; have hs7 : Step w w7 := ⟨(fut w (w9.alloc (.cells #[.int .i64 (q : Int)] 3))).trans hbel7⟩; have HU := hide (H9.out.fut (w' := w9.alloc (.cells #[.int .i64 (q : Int)] 3))); have HU7 := hide (HU.out.grown_other hgr7 (own_ne HU.out HOD.out (by decide))); clear hown7 hgr7 hbel7)))
          go_roundw
          case rel =>
            refine ⟨j + 1, q + 1, A9, c9, us ++ [clean v], A7, c7, ms ++ [(q : Int)], by omega, by go_num, by go_num, by go_num, by show _ = _; rw [List.length_append, HUL.out]; rfl, by show _ = _; rw [List.length_append, HML.out]; rfl, by omega, ?_, ?_, by rw [List.map_append]; exact HU7.out, by have h_ := H7.out; simpa [intCells] using h_, hs7⟩
            · intro x hx
              rcases List.mem_append.1 hx with hx | hx
              · exact HMS.out x hx
              · simp at hx; omega
            · intro x hx
              rcases List.mem_append.1 hx with hx | hx
              · exact HUS.out x hx
              · simp at hx; exact ⟨v, List.mem_of_getElem? HVK.out, hx⟩
          case measure => simp [intOf]; omega
    · obtain rfl : j = vs.length := by omega
      go_wp2_with fail
      go_ret2
      have hm1 := HML.out; have hm2 := HUL.out
      exact ⟨A1, c1, us, A2, c2, ms, by rw [hm2, hm1]; rfl, by omega, by omega, HMS.out, HUS.out, by rw [hm2]; exact HO1.out, by rw [hm1]; exact HO2.out, Step.of⟩
end Go.Proofs.YtinpnginjpfbpaaDoor
