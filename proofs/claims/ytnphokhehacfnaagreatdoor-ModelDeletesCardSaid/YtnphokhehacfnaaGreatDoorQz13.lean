/-
  Texts put together: Dn, D9, Dc.
-/
import Derived.Test.YtnphokhehacfnaaGreatDoorQz04
import Derived.Test.YtnphokhehacfnaaGreatDoorQz07
import Derived.Test.YtnphokhehacfnaaGreatDoorQz09
import Derived.Test.YtnphokhehacfnaaGreatDoorQz12
namespace Go.Proofs.YtnphokhehacfnaaGreatDoor
open Go.RowKit

set_option maxRecDepth 100000 in
set_option maxHeartbeats 4000000 in
theorem run_add {w1 : World} (g D T O : Nat) (t : TbA) (o : OpA) (w : World) (h : Doer w g D T O t o) (ho : OpIn w1 o) [f1 : Fut w1 w] (hf : TbFine t) (hg : g ≤ w.heap.size) (hn12 : t.s.cols.length ≤ 12) (hn4 : t.rs.length ≤ 4096) (hk : o.kind = 0) :
    Calls Tryz.prog 44 #[.pointer (some ⟨D, 0, none⟩)] w fun e w' => RunR g T w (growP t.tb o.op) e w' := by
  have CC := add_anyD g D T O t o w h ho hf hg hn12 hn4
  have HD := hide h
  obtain ⟨d0, d1⟩ := At.z2 (HD.out.d.fut (w' := w)).at0
  have ld := (HD.out.d.fut (w' := w)).lt
  obtain ⟨t0, t1, t2, t3, t4, t5⟩ := At.z6 (HD.out.tb.fut (w' := w)).at0
  have lt_ := (HD.out.tb.fut (w' := w)).lt
  have ft_ := (HD.out.tb.fut (w' := w)).free
  obtain ⟨o0, o1, o2, o3, o4, o5, o6, o7, o8, o9, o10, o11, o12, o13, o14, o15⟩ := At.zOp (HD.out.op.fut (w' := w)).at0
  have lo := (HD.out.op.fut (w' := w)).lt
  unfold TbA.cells at *
  rw [hk] at o0
  clear hk
  cases hR : growP t.tb o.op with
  | error c =>
    rw [hR] at CC
    have CC := hide CC
    clear hR
    go_enter Tryz.func44, Tryz.ntmps44
    go_wp2_with (go_at_call 87; (with_reducible refine CC.out.mono ?_); rintro e w3 ⟨hmt, rfl⟩; have HMT := hide hmt; clear hmt)
    exact ⟨rfl, HMT.out, rfl⟩
  | ok u =>
    rw [hR] at CC
    have CC := hide CC
    clear hR
    go_enter Tryz.func44, Tryz.ntmps44
    go_wp2_with (go_at_call 87; (with_reducible refine CC.out.mono ?_); rintro e w3 ⟨hmt, rfl, t2, ht2, hb2, ho2⟩; have HMT := hide hmt; have HT2 := hide ht2; have HB2 := hide hb2; have HO2 := hide ho2; clear hmt ht2 hb2 ho2)
    go_end0
    exact ⟨HMT.out, rfl, t2, HT2.out, HB2.out, HO2.out⟩
set_option maxRecDepth 100000 in
set_option maxHeartbeats 4000000 in
theorem run_del {w1 : World} (g D T O : Nat) (t : TbA) (o : OpA) (w : World) (h : Doer w g D T O t o) (ho : OpIn w1 o) [f1 : Fut w1 w] (hf : TbFine t) (hg : g ≤ w.heap.size) (hk : o.kind = 1) :
    Calls Tryz.prog 44 #[.pointer (some ⟨D, 0, none⟩)] w fun e w' => RunR g T w (takeP t.tb o.op) e w' := by
  have CC := take_any g D T O t o w h ho hf hg
  have HD := hide h
  obtain ⟨d0, d1⟩ := At.z2 (HD.out.d.fut (w' := w)).at0
  have ld := (HD.out.d.fut (w' := w)).lt
  obtain ⟨t0, t1, t2, t3, t4, t5⟩ := At.z6 (HD.out.tb.fut (w' := w)).at0
  have lt_ := (HD.out.tb.fut (w' := w)).lt
  have ft_ := (HD.out.tb.fut (w' := w)).free
  obtain ⟨o0, o1, o2, o3, o4, o5, o6, o7, o8, o9, o10, o11, o12, o13, o14, o15⟩ := At.zOp (HD.out.op.fut (w' := w)).at0
  have lo := (HD.out.op.fut (w' := w)).lt
  unfold TbA.cells at *
  rw [hk] at o0
  clear hk
  cases hR : takeP t.tb o.op with
  | error c =>
    rw [hR] at CC
    have CC := hide CC
    clear hR
    go_enter Tryz.func44, Tryz.ntmps44
    go_wp2_with (go_at_call 88; (with_reducible refine CC.out.mono ?_); rintro e w3 ⟨hmt, rfl⟩; have HMT := hide hmt; clear hmt)
    exact ⟨rfl, HMT.out, rfl⟩
  | ok u =>
    rw [hR] at CC
    have CC := hide CC
    clear hR
    go_enter Tryz.func44, Tryz.ntmps44
    go_wp2_with (go_at_call 88; (with_reducible refine CC.out.mono ?_); rintro e w3 ⟨hmt, rfl, t2, ht2, hb2, ho2⟩; have HMT := hide hmt; have HT2 := hide ht2; have HB2 := hide hb2; have HO2 := hide ho2; clear hmt ht2 hb2 ho2)
    go_end0
    exact ⟨HMT.out, rfl, t2, HT2.out, HB2.out, HO2.out⟩
set_option maxRecDepth 100000 in
set_option maxHeartbeats 4000000 in
theorem run_mark {w1 : World} (g D T O : Nat) (t : TbA) (o : OpA) (w : World) (h : Doer w g D T O t o) (ho : OpIn w1 o) [f1 : Fut w1 w] (hf : TbFine t) (hg : g ≤ w.heap.size) (hk : o.kind = 2) :
    Calls Tryz.prog 44 #[.pointer (some ⟨D, 0, none⟩)] w fun e w' => RunR g T w (takeP t.tb o.op) e w' := by
  have CC := take_any g D T O t o w h ho hf hg
  have HD := hide h
  obtain ⟨d0, d1⟩ := At.z2 (HD.out.d.fut (w' := w)).at0
  have ld := (HD.out.d.fut (w' := w)).lt
  obtain ⟨t0, t1, t2, t3, t4, t5⟩ := At.z6 (HD.out.tb.fut (w' := w)).at0
  have lt_ := (HD.out.tb.fut (w' := w)).lt
  have ft_ := (HD.out.tb.fut (w' := w)).free
  obtain ⟨o0, o1, o2, o3, o4, o5, o6, o7, o8, o9, o10, o11, o12, o13, o14, o15⟩ := At.zOp (HD.out.op.fut (w' := w)).at0
  have lo := (HD.out.op.fut (w' := w)).lt
  unfold TbA.cells at *
  rw [hk] at o0
  clear hk
  cases hR : takeP t.tb o.op with
  | error c =>
    rw [hR] at CC
    have CC := hide CC
    clear hR
    go_enter Tryz.func44, Tryz.ntmps44
    go_wp2_with (go_at_call 88; (with_reducible refine CC.out.mono ?_); rintro e w3 ⟨hmt, rfl⟩; have HMT := hide hmt; clear hmt)
    exact ⟨rfl, HMT.out, rfl⟩
  | ok u =>
    rw [hR] at CC
    have CC := hide CC
    clear hR
    go_enter Tryz.func44, Tryz.ntmps44
    go_wp2_with (go_at_call 88; (with_reducible refine CC.out.mono ?_); rintro e w3 ⟨hmt, rfl, t2, ht2, hb2, ho2⟩; have HMT := hide hmt; have HT2 := hide ht2; have HB2 := hide hb2; have HO2 := hide ho2; clear hmt ht2 hb2 ho2)
    go_end0
    exact ⟨HMT.out, rfl, t2, HT2.out, HB2.out, HO2.out⟩
set_option maxRecDepth 100000 in
set_option maxHeartbeats 4000000 in
theorem drop_none (g D T O : Nat) (t : TbA) (o : OpA) (w : World) (h : Doer w g D T O t o) (hf : TbFine t) (hg : g ≤ w.heap.size) (hi : idx (named o.col) t.s.cols < 0) :
    Calls Tryz.prog 92 #[.pointer (some ⟨D, 0, none⟩)] w fun e w' => RunR g T w (.error 5) e w' := by
  have hsch := (h.own.r.tin hf).sch
  have HD := hide h
  obtain ⟨x, hx⟩ : ∃ x, idx (named o.col) t.s.cols = x := ⟨_, rfl⟩
  have FD : Hid (∀ (w' : World), Fut w w' → Calls Tryz.prog 125 #[.agg #[.int .i64 t.s.id, .slice t.As t.s.cols.length t.cs, .int .i64 t.s.next], .string o.col] w' fun e w'' => e = .returned (.int .i64 x) ∧ Step w' w'') := fun w' hq => by
    have := ((hsch.below hq.below).find o.col)
    rw [hx] at this
    exact this.mono fun e w'' h => ⟨h.1, ⟨h.2⟩⟩
  rw [hx] at hi
  clear h hsch hx
  obtain ⟨d0, d1⟩ := At.z2 (HD.out.d.fut (w' := w)).at0
  have ld := (HD.out.d.fut (w' := w)).lt
  obtain ⟨t0, t1, t2, t3, t4, t5⟩ := At.z6 (HD.out.tb.fut (w' := w)).at0
  have lt_ := (HD.out.tb.fut (w' := w)).lt
  have ft_ := (HD.out.tb.fut (w' := w)).free
  obtain ⟨o0, o1, o2, o3, o4, o5, o6, o7, o8, o9, o10, o11, o12, o13, o14, o15⟩ := At.zOp (HD.out.op.fut (w' := w)).at0
  have lo := (HD.out.op.fut (w' := w)).lt
  unfold TbA.cells at *
  have hxd : decide (x < 0) = true := decide_eq_true hi
  go_enter Tryz.func92, Tryz.ntmps92
  go_upto_region 0 with fail
  refine wp_region_held_drew (S := (fun w' => Step w w' ∧ (∀ b o, b < w.heap.size → w'.cell? ⟨b, o, none⟩ = w.cell? ⟨b, o, none⟩))) (by kernel_rfl) (by (try dsimp only); (first | exact ⟨hS1, hS2⟩ | exact ⟨Step.of, (bcell (fut _ _)).1⟩)) (fun hHeld => ?_)
  refine wpAnyH_take (i := 0) (oi := ⟨some 5, _, _, _, _, _⟩) (v := ?_) rfl (by kernel_rfl) (by kernel_rfl) (by kernel_rfl) (fun _ _ _ h => h) (Or.inl ⟨by rfl, ?_⟩) (by assumption) ?_
  rotate_left
  · ((intro w hSw); (try dsimp only at hSw); go_simp; (try with_reducible rfl))
  (try simp only [Act.put, List.setIfInBounds_toArray, List.set_cons_zero, List.set_cons_succ])
  refine wpAnyH_take (i := 7) (oi := ⟨some 12, _, _, _, _, _⟩) (v := ?_) rfl (by kernel_rfl) (by kernel_rfl) (by kernel_rfl) (fun _ _ _ h => h) (Or.inl ⟨by rfl, ?_⟩) (by assumption) ?_
  rotate_left
  · ((intro w hSw); (try dsimp only at hSw); go_simp; (try with_reducible rfl))
  (try simp only [Act.put, List.setIfInBounds_toArray, List.set_cons_zero, List.set_cons_succ])
  refine wpAnyH_take (i := 1) (oi := ⟨some 6, _, _, _, _, _⟩) (v := ?_) rfl (by kernel_rfl) (by kernel_rfl) (by kernel_rfl) (fun _ _ _ h => h) (Or.inl ⟨by rfl, ?_⟩) (by assumption) ?_
  rotate_left
  · ((intro w hSw); (try dsimp only at hSw); go_simp; (try with_reducible rfl))
  (try simp only [Act.put, List.setIfInBounds_toArray, List.set_cons_zero, List.set_cons_succ])
  refine wpAnyH_take (i := 8) (oi := ⟨some 13, _, _, _, _, _⟩) (v := ?_) rfl (by kernel_rfl) (by kernel_rfl) (by kernel_rfl) (fun _ _ _ h => h) (Or.inl ⟨by rfl, ?_⟩) (by assumption) ?_
  rotate_left
  · ((intro w hSw); (try dsimp only at hSw); go_simp; (try with_reducible rfl))
  (try simp only [Act.put, List.setIfInBounds_toArray, List.set_cons_zero, List.set_cons_succ])
  refine wpAnyH_take (i := 2) (oi := ⟨some 7, _, _, _, _, _⟩) (v := ?_) rfl (by kernel_rfl) (by kernel_rfl) (by kernel_rfl) (fun _ _ _ h => h) (Or.inl ⟨by rfl, ?_⟩) (by assumption) ?_
  rotate_left
  · ((intro w hSw); (try dsimp only at hSw); go_simp; (try with_reducible rfl))
  (try simp only [Act.put, List.setIfInBounds_toArray, List.set_cons_zero, List.set_cons_succ])
  refine wpAnyH_take (i := 9) (oi := ⟨some 14, _, _, _, _, _⟩) (v := ?_) rfl (by kernel_rfl) (by kernel_rfl) (by kernel_rfl) (fun _ _ _ h => h) (Or.inl ⟨by rfl, ?_⟩) (by assumption) ?_
  rotate_left
  · ((intro w hSw); (try dsimp only at hSw); go_simp; (try with_reducible rfl))
  (try simp only [Act.put, List.setIfInBounds_toArray, List.set_cons_zero, List.set_cons_succ])
  refine wpAnyH_take (i := 3) (oi := ⟨some 8, _, _, _, _, _⟩) (v := ?_) rfl (by kernel_rfl) (by kernel_rfl) (by kernel_rfl) (fun _ _ _ h => h) (Or.inl ⟨by rfl, ?_⟩) (by assumption) ?_
  rotate_left
  · ((intro w hSw); (try dsimp only at hSw); go_simp; (try with_reducible rfl))
  (try simp only [Act.put, List.setIfInBounds_toArray, List.set_cons_zero, List.set_cons_succ])
  refine wpAnyH_take (i := 10) (oi := ⟨some 15, _, _, _, _, _⟩) (v := ?_) rfl (by kernel_rfl) (by kernel_rfl) (by kernel_rfl) (fun _ _ _ h => h) (Or.inl ⟨by rfl, ?_⟩) (by assumption) ?_
  rotate_left
  · ((intro w hSw); (try dsimp only at hSw); go_simp; (try with_reducible rfl))
  (try simp only [Act.put, List.setIfInBounds_toArray, List.set_cons_zero, List.set_cons_succ])
  refine wpAnyH_take (i := 4) (oi := ⟨some 9, _, _, _, _, _⟩) (v := ?_) rfl (by kernel_rfl) (by kernel_rfl) (by kernel_rfl) (fun _ _ _ h => h) (Or.inl ⟨by rfl, ?_⟩) (by assumption) ?_
  rotate_left
  · ((intro w hSw); (try dsimp only at hSw); go_simp; (try with_reducible rfl))
  (try simp only [Act.put, List.setIfInBounds_toArray, List.set_cons_zero, List.set_cons_succ])
  refine wpAnyH_take (i := 11) (oi := ⟨some 16, _, _, _, _, _⟩) (v := ?_) rfl (by kernel_rfl) (by kernel_rfl) (by kernel_rfl) (fun _ _ _ h => h) (Or.inl ⟨by rfl, ?_⟩) (by assumption) ?_
  rotate_left
  · ((intro w hSw); (try dsimp only at hSw); go_simp; (try with_reducible rfl))
  (try simp only [Act.put, List.setIfInBounds_toArray, List.set_cons_zero, List.set_cons_succ])
  refine wpAnyH_take (i := 5) (oi := ⟨some 10, _, _, _, _, _⟩) (v := ?_) rfl (by kernel_rfl) (by kernel_rfl) (by kernel_rfl) (fun _ _ _ h => h) (Or.inl ⟨by rfl, ?_⟩) (by assumption) ?_
  rotate_left
  · ((intro w hSw); (try dsimp only at hSw); go_simp; (try with_reducible rfl))
  (try simp only [Act.put, List.setIfInBounds_toArray, List.set_cons_zero, List.set_cons_succ])
  refine wpAnyH_take (i := 12) (oi := ⟨some 17, _, _, _, _, _⟩) (v := ?_) rfl (by kernel_rfl) (by kernel_rfl) (by kernel_rfl) (fun _ _ _ h => h) (Or.inl ⟨by rfl, ?_⟩) (by assumption) ?_
  rotate_left
  · ((intro w hSw); (try dsimp only at hSw); go_simp; (try with_reducible rfl))
  (try simp only [Act.put, List.setIfInBounds_toArray, List.set_cons_zero, List.set_cons_succ])
  refine wpAnyH_take (i := 6) (oi := ⟨some 11, _, _, _, _, _⟩) (v := ?_) rfl (by kernel_rfl) (by kernel_rfl) (by kernel_rfl) (fun _ _ _ h => h) (Or.inl ⟨by rfl, ?_⟩) (by assumption) ?_
  rotate_left
  · ((intro w hSw); (try dsimp only at hSw); go_simp; (try with_reducible rfl))
  (try simp only [Act.put, List.setIfInBounds_toArray, List.set_cons_zero, List.set_cons_succ])
  refine wpAnyH_take (i := 13) (oi := ⟨some 18, _, _, _, _, _⟩) (v := ?_) rfl (by kernel_rfl) (by kernel_rfl) (by kernel_rfl) (fun _ _ _ h => h) (Or.inl ⟨by rfl, ?_⟩) (by assumption) ?_
  rotate_left
  · ((intro w hSw); (try dsimp only at hSw); go_simp; (try with_reducible rfl))
  (try simp only [Act.put, List.setIfInBounds_toArray, List.set_cons_zero, List.set_cons_succ])
  refine wpAnyH_ready (rs := [14]) (by kernel_rfl) (by simp) ?_
  refine AllReadyH.cons (o := ⟨some 19, _, _, _, _, _⟩) rfl (fun K hK => ?_) AllReadyH.nil
  obtain ⟨hS1, hS2⟩ := hHeld
  go_simp
  (go_at_call 125; (with_reducible refine (FD.out _ inferInstance).mono ?_); rintro e w3 ⟨rfl, hs3⟩)
  refine hK.out _ _ (by (try dsimp only); (first | exact ⟨hS1, hS2⟩ | exact ⟨Step.of, (bcell (fut _ _)).1⟩)) (fun hHeld => ?_)
  clear hK K
  (try simp only [Act.put, List.setIfInBounds_toArray, List.set_cons_zero, List.set_cons_succ])
  refine wpAnyH_take (i := 15) (oi := ⟨some 2, _, _, _, _, _⟩) (v := ?_) rfl (by kernel_rfl) (by kernel_rfl) (by kernel_rfl) (fun _ _ _ h => h) (Or.inl ⟨by rfl, ?_⟩) (by assumption) ?_
  rotate_left
  · ((intro w hSw); (try dsimp only at hSw); go_simp; (try with_reducible rfl))
  (try simp only [Act.put, List.setIfInBounds_toArray, List.set_cons_zero, List.set_cons_succ])
  refine wpAnyH_done (by kernel_rfl) ?_ _
  go_wp2_with (go_at_call 122; (with_reducible refine (throw_yes _ _).mono ?_); rintro e w9 ⟨rfl, h9⟩; obtain rfl := h9.symm)
  exact ⟨rfl, Mt.step hg (fut w _), rfl⟩
set_option maxRecDepth 100000 in
set_option maxHeartbeats 4000000 in
theorem run_drop_none (g D T O : Nat) (t : TbA) (o : OpA) (w : World) (h : Doer w g D T O t o) (hf : TbFine t) (hg : g ≤ w.heap.size) (hi : idx (named o.col) t.s.cols < 0) (hk : o.kind = 5) :
    Calls Tryz.prog 44 #[.pointer (some ⟨D, 0, none⟩)] w fun e w' => RunR g T w (.error 5) e w' := by
  have CC := hide (drop_none g D T O t o w h hf hg hi)
  have HD := hide h
  obtain ⟨d0, d1⟩ := At.z2 (HD.out.d.fut (w' := w)).at0
  have ld := (HD.out.d.fut (w' := w)).lt
  obtain ⟨t0, t1, t2, t3, t4, t5⟩ := At.z6 (HD.out.tb.fut (w' := w)).at0
  have lt_ := (HD.out.tb.fut (w' := w)).lt
  have ft_ := (HD.out.tb.fut (w' := w)).free
  obtain ⟨o0, o1, o2, o3, o4, o5, o6, o7, o8, o9, o10, o11, o12, o13, o14, o15⟩ := At.zOp (HD.out.op.fut (w' := w)).at0
  have lo := (HD.out.op.fut (w' := w)).lt
  unfold TbA.cells at *
  rw [hk] at o0
  clear hk
  go_enter Tryz.func44, Tryz.ntmps44
  go_wp2_with (go_at_call 92; (with_reducible refine CC.out.mono ?_); rintro e w3 ⟨hmt, rfl⟩; have HMT := hide hmt; clear hmt)
  exact ⟨rfl, HMT.out, rfl⟩
theorem TbFine.of_tb {t t' : TbA} (h : TbFine t) (he : t'.tb = t.tb) : TbFine t' := by
  have h1 : t'.s = t.s := congrArg Tb.s he
  have h2 : t'.fs = t.fs := congrArg Tb.fs he
  have h3 : t'.rs.map RowA.vs = t.rs.map RowA.vs := congrArg Tb.rows he
  have h4 : t'.rs.length = t.rs.length := by have := congrArg List.length h3; simpa using this
  exact ⟨by rw [h1]; exact h.clen, by rw [h1]; exact h.names, by rw [h2]; exact h.flen, by rw [h4]; exact h.rlen, by rw [h3]; exact h.vals⟩
theorem tb_small {t t' : TbA} (h : tabB t.tb = true) (he : t'.tb = t.tb) : t'.s.cols.length ≤ 12 ∧ t'.rs.length ≤ 4096 := by
  have h1 : t'.s = t.s := congrArg Tb.s he
  have h3 : t'.rs.map RowA.vs = t.rs.map RowA.vs := congrArg Tb.rows he
  have h4 : t'.rs.length = t.rs.length := by have := congrArg List.length h3; simpa using this
  obtain ⟨hm, _, hl, _⟩ := tabB_iff.1 h
  have hc := (addR_inv hm).2.2.2.2
  refine ⟨by rw [h1]; exact hc, ?_⟩
  rw [h4]
  simpa [TbA.tb] using hl
theorem applyP_form {t : Tb} {o : Opp} (h : tabB t = false ∨ o.kind < 0 ∨ 8 < o.kind) : applyP t o = (t, 9) := by rw [applyP, if_pos h]
theorem applyP_run {t : Tb} {o : Opp} (h : tabB t = true) (h0 : ¬ o.kind < 0) (h8 : ¬ 8 < o.kind) : applyP t o = match runP t o with | .error c => (t, c) | .ok u => (u, 0) := by
  rw [applyP, if_neg (by rintro (hh | hh | hh); (rw [h] at hh; cases hh); exact h0 hh; exact h8 hh)]; cases runP t o <;> rfl
/-- Apply, by what run does. -/
theorem apply_by {w0 : World} (t : TbA) (o : OpA) (w : World) (hin : TbIn w0 t) [f0 : Fut w0 w] (h0 : ¬ o.kind < 0) (h8 : ¬ 8 < o.kind) (hce : ∀ c, runP t.tb o.op = .error c → c ≠ 0)
    (hrun : tabB t.tb = true → ∀ (g D T O : Nat) (t' : TbA) (w' : World), Fut w w' → Doer w' g D T O t' o → t'.tb = t.tb → g ≤ w'.heap.size → Calls Tryz.prog 44 #[.pointer (some ⟨D, 0, none⟩)] w' fun e w'' => RunR g T w' (runP t.tb o.op) e w'') :
    Calls Tryz.prog 13 #[t.val, .agg #[.int .i64 o.kind, .string o.txn, .slice o.Ac o.cols.length o.cc, .slice o.Ar o.rows.length o.cr, .slice o.An o.ns.length o.cn, .string o.col, .string o.name, .int .i64 o.ck, .int .i64 o.v.kind, .int .i64 o.v.i, .bool o.v.b, .string o.v.s, .slice o.Af o.fs.length o.cf, .int .i64 o.ver, .int .i64 o.time, .int .i64 o.agg]] w (ApplyR w (applyP t.tb o.op)) := by
  cases hm : tabB t.tb with
  | false =>
    rw [applyP_form (.inl hm)]
    exact apply_form t o w hin (.inl hm)
  | true =>
    rw [applyP_run hm h0 h8]
    have hr := hrun hm
    cases hR : runP t.tb o.op with
    | error c =>
      rw [hR] at hr
      exact apply_err t o w hin hm h0 h8 c (hce c hR) hr
    | ok u =>
      rw [hR] at hr
      exact apply_ok t o w hin hm h0 h8 u hr
theorem grow_err {t : Tb} {o : Opp} {c : Int} (h : growP t o = .error c) : c ≠ 0 := by
  rw [grow_eq] at h
  split at h
  · injection h with h; omega
  · split at h
    · injection h with h; omega
    · unfold growC at h
      split at h
      · injection h with h; omega
      · split at h
        · injection h with h; omega
        · split at h
          · injection h with h; omega
          · cases h
theorem take_err {t : Tb} {o : Opp} {c : Int} (h : takeP t o = .error c) : c ≠ 0 := by
  unfold takeP at h
  split at h
  · injection h with h; omega
  · unfold yesP at h
    split at h
    · rename_i hq
      split at hq
      · injection hq with hq; injection h with h; omega
      · cases hq
    · cases h
theorem apply_add {w0 w1 : World} (t : TbA) (o : OpA) (w : World) (hin : TbIn w0 t) (ho : OpIn w1 o) [f0 : Fut w0 w] [f1 : Fut w1 w] (hk : o.kind = 0) :
    Calls Tryz.prog 13 #[t.val, .agg #[.int .i64 o.kind, .string o.txn, .slice o.Ac o.cols.length o.cc, .slice o.Ar o.rows.length o.cr, .slice o.An o.ns.length o.cn, .string o.col, .string o.name, .int .i64 o.ck, .int .i64 o.v.kind, .int .i64 o.v.i, .bool o.v.b, .string o.v.s, .slice o.Af o.fs.length o.cf, .int .i64 o.ver, .int .i64 o.time, .int .i64 o.agg]] w (ApplyR w (applyP t.tb o.op)) := by
  have hr : runP t.tb o.op = growP t.tb o.op := by rw [runP, if_pos (show o.op.kind = 0 from hk)]
  refine apply_by t o w hin (by omega) (by omega) (fun c hc => grow_err (by rw [← hr]; exact hc)) fun hm g D T O t' w' hq hd he hg => ?_
  haveI := Fut.tr f1 hq
  rw [hr, ← he]
  exact run_add g D T O t' o w' hd ho (hin.fine.of_tb he) hg (tb_small hm he).1 (tb_small hm he).2 hk
theorem apply_take {w0 w1 : World} (t : TbA) (o : OpA) (w : World) (hin : TbIn w0 t) (ho : OpIn w1 o) [f0 : Fut w0 w] [f1 : Fut w1 w] (hk : o.kind = 1 ∨ o.kind = 2) :
    Calls Tryz.prog 13 #[t.val, .agg #[.int .i64 o.kind, .string o.txn, .slice o.Ac o.cols.length o.cc, .slice o.Ar o.rows.length o.cr, .slice o.An o.ns.length o.cn, .string o.col, .string o.name, .int .i64 o.ck, .int .i64 o.v.kind, .int .i64 o.v.i, .bool o.v.b, .string o.v.s, .slice o.Af o.fs.length o.cf, .int .i64 o.ver, .int .i64 o.time, .int .i64 o.agg]] w (ApplyR w (applyP t.tb o.op)) := by
  have hr : runP t.tb o.op = takeP t.tb o.op := by rw [runP, if_neg (show ¬ o.op.kind = 0 by show ¬ o.kind = 0; omega), if_pos (show o.op.kind = 1 ∨ o.op.kind = 2 from hk)]
  refine apply_by t o w hin (by omega) (by omega) (fun c hc => take_err (by rw [← hr]; exact hc)) fun hm g D T O t' w' hq hd he hg => ?_
  haveI := Fut.tr f1 hq
  rw [hr, ← he]
  rcases hk with hk | hk
  · exact run_del g D T O t' o w' hd ho (hin.fine.of_tb he) hg hk
  · exact run_mark g D T O t' o w' hd ho (hin.fine.of_tb he) hg hk
theorem apply_drop_none {w0 : World} (t : TbA) (o : OpA) (w : World) (hin : TbIn w0 t) [f0 : Fut w0 w] (hk : o.kind = 5) (hi : idx (named o.col) t.s.cols < 0) :
    Calls Tryz.prog 13 #[t.val, .agg #[.int .i64 o.kind, .string o.txn, .slice o.Ac o.cols.length o.cc, .slice o.Ar o.rows.length o.cr, .slice o.An o.ns.length o.cn, .string o.col, .string o.name, .int .i64 o.ck, .int .i64 o.v.kind, .int .i64 o.v.i, .bool o.v.b, .string o.v.s, .slice o.Af o.fs.length o.cf, .int .i64 o.ver, .int .i64 o.time, .int .i64 o.agg]] w (ApplyR w (applyP t.tb o.op)) := by
  have hr : runP t.tb o.op = .error 5 := by
    rw [runP, if_neg (show ¬ o.op.kind = 0 by show ¬ o.kind = 0; omega), if_neg (show ¬ (o.op.kind = 1 ∨ o.op.kind = 2) by show ¬ (o.kind = 1 ∨ o.kind = 2); omega), if_neg (show ¬ o.op.kind = 3 by show ¬ o.kind = 3; omega), if_neg (show ¬ o.op.kind = 4 by show ¬ o.kind = 4; omega), if_pos (show o.op.kind = 5 from hk), dropP, if_pos (show idx (named o.op.col) t.tb.s.cols < 0 from hi)]
  refine apply_by t o w hin (by omega) (by omega) (fun c hc => by rw [hr] at hc; injection hc with hc; omega) fun hm g D T O t' w' hq hd he hg => ?_
  rw [hr]
  have h1 : t'.s = t.s := congrArg Tb.s he
  exact run_drop_none g D T O t' o w' hd (hin.fine.of_tb he) hg (by rw [h1]; exact hi) hk
end Go.Proofs.YtnphokhehacfnaaGreatDoor

namespace Go.Proofs.YtnphokhehacfnaaGreatDoor
open Go.RowKit

/-- The one of two that counts. -/
def selV (p : Val → Val → Bool) (a v : Val) : Val := if kindV a = 0 ∨ (kindV v ≠ 0 ∧ p (clean v) (clean a) = true) then clean v else clean a
def Val.ag (v : Val) : Value := .agg #[.int .i64 v.kind, .int .i64 v.i, .bool v.b, .string v.s]
theorem clean_agD (v : Val) : (clean v).ag = .agg #[.int .i64 (kindV v), .int .i64 (clean v).i, .bool (clean v).b, .string (clean v).s] := by rw [Val.ag, clean_kind]
def minP (vs : List Val) : Val := vs.foldl (selV lessV) Val.zero
def maxP (vs : List Val) : Val := vs.foldl (selV fun x y => lessV y x) Val.zero
def nullsP (vs : List Val) : Nat := vs.countP fun v => kindV v == 0
/-- What is added so far. -/
def sumI : List Val → Int
  | [] => 0
  | v :: r => (if v.kind = 0 then 0 else v.i) + sumI r
def badK (v : Val) : Bool := v.kind != 0 && v.kind != 1
def someK (v : Val) : Bool := v.kind != 0
def sumP (vs : List Val) : Val × Int :=
  if vs.any badK = true then (Val.zero, 1701)
  else if vs.any someK = false then (Val.zero, 0)
  else if -9223372036854775808 ≤ sumI vs ∧ sumI vs ≤ 9223372036854775807 then (⟨1, sumI vs, false, .empty⟩, 0)
  else (Val.zero, 1702)
def aggP (k : Int) (vs : List Val) : Val × Int :=
  if k = 0 then (Val.zero, 0)
  else if k = 1 then (⟨1, (vs.length : Int) - (nullsP (vs.map clean) : Int), false, .empty⟩, 0)
  else if k = 2 then sumP (vs.map clean)
  else if k = 3 then (minP (vs.map clean), 0)
  else if k = 4 then (maxP (vs.map clean), 0)
  else (Val.zero, 1700)
theorem sumI_app (a b : List Val) : sumI (a ++ b) = sumI a + sumI b := by
  induction a with
  | nil => simp [sumI]
  | cons x r ih => simp only [List.cons_append, sumI, ih]; omega
theorem sumI_snoc (a : List Val) (v : Val) : sumI (a ++ [v]) = sumI a + (if v.kind = 0 then 0 else v.i) := by
  rw [sumI_app]; simp [sumI]
/-- The two words of a sum. -/
structure Two (s : Int) (low high : Nat) : Prop where
  lo : low < 18446744073709551616
  hi : high < 18446744073709551616
  eq : ∃ h : Int, s = h * 18446744073709551616 + low ∧ (high : Int) = h % 18446744073709551616
theorem Two.zero : Two 0 0 0 := ⟨by decide, by decide, 0, by simp, by simp⟩
/-- One number more. -/
theorem Two.add {s : Int} {low high : Nat} (h : Two s low high) {v : Int} (h1 : -9223372036854775808 ≤ v) (h2 : v ≤ 9223372036854775807) {x l c hh : Nat} (hx : (x : Int) = v % 18446744073709551616)
    (hl : l = (low + x) % 18446744073709551616) (hc : c = (low + x) / 18446744073709551616) (hhh : (hh : Int) = ((high : Int) + c + (if v < 0 then -1 else 0)) % 18446744073709551616) : Two (s + v) l hh := by
  obtain ⟨lo, hi, k, e1, e2⟩ := h
  refine ⟨by omega, by omega, k + c + (if v < 0 then -1 else 0), ?_, ?_⟩
  · by_cases hv : v < 0
    · rw [if_pos hv]
      have : (x : Int) = v + 18446744073709551616 := by omega
      subst hl
      subst hc
      omega
    · rw [if_neg hv]
      have : (x : Int) = v := by omega
      subst hl
      subst hc
      omega
  · rw [hhh, e2]
    by_cases hv : v < 0
    · rw [if_pos hv]; omega
    · rw [if_neg hv]; omega
/-- Is the sum a number's? -/
theorem Two.fits {s : Int} {low high : Nat} (h : Two s low high) (hb : -170141183460469231731687303715884105728 ≤ s ∧ s ≤ 170141183460469231731687303715884105727) :
    ((high : Int) = (if (low : Int) ≥ 9223372036854775808 then 18446744073709551615 else 0)) ↔ (-9223372036854775808 ≤ s ∧ s ≤ 9223372036854775807) := by
  obtain ⟨lo, hi, k, e1, e2⟩ := h
  by_cases hl : (low : Int) ≥ 9223372036854775808
  · rw [if_pos hl]
    constructor
    · intro he
      have : k = -1 := by omega
      subst this
      omega
    · intro he
      have : k = -1 := by omega
      subst this
      omega
  · rw [if_neg hl]
    constructor
    · intro he
      have : k = 0 := by omega
      subst this
      omega
    · intro he
      have : k = 0 := by omega
      subst this
      omega
theorem Two.val {s : Int} {low high : Nat} (h : Two s low high) (hf : -9223372036854775808 ≤ s ∧ s ≤ 9223372036854775807) : s = if (low : Int) ≥ 9223372036854775808 then (low : Int) - 18446744073709551616 else low := by
  obtain ⟨lo, hi, k, e1, e2⟩ := h
  split <;> omega
theorem sumI_bd : ∀ {vs : List Val}, (∀ v ∈ vs, -9223372036854775808 ≤ v.i ∧ v.i ≤ 9223372036854775807) → -(vs.length * 9223372036854775808 : Int) ≤ sumI vs ∧ sumI vs ≤ vs.length * 9223372036854775808
  | [], _ => by simp [sumI]
  | v :: r, h => by
    have ih := sumI_bd (vs := r) (fun u hu => h u (by simp [hu]))
    have hv := h v (by simp)
    simp only [sumI, List.length_cons]
    split <;> omega
end Go.Proofs.YtnphokhehacfnaaGreatDoor

namespace Go.Proofs.YtnphokhehacfnaaGreatDoor
open Go.RowKit

set_option maxRecDepth 100000 in
set_option maxHeartbeats 8000000 in
theorem lesser_any (f : FuncId) (p : Val → Val → Bool) (a b : Val) (w : World) (hcall : ∀ args w, (callFunc f args).run Tryz.prog w = .ok (.enter f args) w)
    (hf : ∀ (x y : Val) (w' : World), Calls Tryz.prog f #[x.val, y.val] w' fun e w'' => e = .returned (.bool (p x y)) ∧ Step w' w'') :
    Calls Tryz.prog 182 #[.agg #[.int .i64 a.kind, .int .i64 a.i, .bool a.b, .string a.s], .agg #[.int .i64 b.kind, .int .i64 b.i, .bool b.b, .string b.s], .func (.func f) #[] #[]] w fun e w' => e = .returned (selV p a b).ag ∧ Step w w' := by
  have PA := hide (plain_ag a)
  have PB := hide (plain_ag b)
  have LF : Hid (∀ w', Calls Tryz.prog f #[.agg #[.int .i64 (kindV b), .int .i64 (clean b).i, .bool (clean b).b, .string (clean b).s], .agg #[.int .i64 (kindV a), .int .i64 (clean a).i, .bool (clean a).b, .string (clean a).s]] w' fun e w'' => e = .returned (.bool (p (clean b) (clean a))) ∧ Step w' w'') := fun w' => by
    have h := hf (clean b) (clean a) w'
    unfold Val.val at h
    rw [clean_kind, clean_kind] at h
    exact h
  clear hf
  obtain ⟨W, hW⟩ : ∃ W, W = ((w.alloc (.cells #[.int .i64 a.kind, .int .i64 a.i, .bool a.b, .string a.s] 36)).alloc (.cells #[.int .i64 b.kind, .int .i64 b.i, .bool b.b, .string b.s] 36)).alloc (.cells #[.int .i64 0, .int .i64 0, .bool false, .string ⟨#[]⟩] 36) := ⟨_, rfl⟩
  have SW : Step w W := by rw [hW]; exact Step.of
  have HA : Hid (Blk W w.heap.size 36 [.int .i64 a.kind, .int .i64 a.i, .bool a.b, .string a.s]) := by rw [hW]; exact ((Blk.new w [.int .i64 a.kind, .int .i64 a.i, .bool a.b, .string a.s] 36).alloc _).alloc _
  have HB : Hid (Blk W (w.heap.size + 1) 36 [.int .i64 b.kind, .int .i64 b.i, .bool b.b, .string b.s]) := by rw [hW]; exact (Blk.new_at (by simp) [.int .i64 b.kind, .int .i64 b.i, .bool b.b, .string b.s] 36).alloc _
  have HC : Hid (Blk W (w.heap.size + 2) 36 [.int .i64 0, .int .i64 0, .bool false, .string ⟨#[]⟩]) := by rw [hW]; exact Blk.new_at (by simp) [.int .i64 0, .int .i64 0, .bool false, .string ⟨#[]⟩] 36
  have HW := hide hW
  clear hW
  obtain ⟨R, hR⟩ : ∃ R, selV p a b = R := ⟨_, rfl⟩
  have HSR : Hid (selV p a b = R) := hR
  rw [hR]
  clear hR
  go_enter Tryz.func182, Tryz.ntmps182
  go_upto_region 1 with fail
  rw [← HW.out]
  obtain ⟨a0, a1, a2, a3⟩ := At.z4 (HA.out.fut (w' := W)).at0
  have la := (HA.out.fut (w' := W)).lt
  have fa := (HA.out.fut (w' := W)).free
  obtain ⟨b0, b1, b2, b3⟩ := At.z4 (HB.out.fut (w' := W)).at0
  have lb := (HB.out.fut (w' := W)).lt
  have fb := (HB.out.fut (w' := W)).free
  refine wp_region_held_drew (S := (fun w' => Step w w' ∧ True)) (by kernel_rfl) (by (try dsimp only); (exact ⟨Step.of, trivial⟩)) (fun hHeld => ?_)
  refine wpAnyH_ready (rs := [0, 2]) (by kernel_rfl) (by simp) ?_
  refine AllReadyH.cons (o := ⟨some 7, _, _, _, _, _⟩) rfl (fun K hK => ?_) (AllReadyH.cons (o := ⟨some 9, _, _, _, _, _⟩) rfl (fun K hK => ?_) AllReadyH.nil)
  · go_simp
    refine hK.out _ _ (by (try dsimp only); (exact ⟨Step.of, trivial⟩)) (fun hHeld => ?_)
    clear hK K
    (try simp only [Act.put, List.setIfInBounds_toArray, List.set_cons_zero, List.set_cons_succ])
    refine wpAnyH_ready (rs := [1, 2]) (by kernel_rfl) (by simp) ?_
    refine AllReadyH.cons (o := ⟨some 8, _, _, _, _, _⟩) rfl (fun K hK => ?_) (AllReadyH.cons (o := ⟨some 9, _, _, _, _, _⟩) rfl (fun K hK => ?_) AllReadyH.nil)
    · obtain ⟨hS1, hS2⟩ := hHeld
      go_simp
      (go_at_call 109; (with_reducible refine (PA.out _).mono ?_); rintro e w5 ⟨rfl, hs5⟩; clear a0 a1 a2 a3 la fa b0 b1 b2 b3 lb fb; obtain ⟨a0, a1, a2, a3⟩ := At.z4 (HA.out.fut (w' := w5)).at0; have la := (HA.out.fut (w' := w5)).lt; have fa := (HA.out.fut (w' := w5)).free; obtain ⟨b0, b1, b2, b3⟩ := At.z4 (HB.out.fut (w' := w5)).at0; have lb := (HB.out.fut (w' := w5)).lt; have fb := (HB.out.fut (w' := w5)).free)
      refine hK.out _ _ (by (try dsimp only); (exact ⟨Step.of, trivial⟩)) (fun hHeld => ?_)
      clear hK K
      (try simp only [Act.put, List.setIfInBounds_toArray, List.set_cons_zero, List.set_cons_succ])
      refine wpAnyH_ready (rs := [2]) (by kernel_rfl) (by simp) ?_
      refine AllReadyH.cons (o := ⟨some 9, _, _, _, _, _⟩) rfl (fun K hK => ?_) AllReadyH.nil
      go_simp
      refine hK.out _ _ (by (try dsimp only); (exact ⟨Step.of, trivial⟩)) (fun hHeld => ?_)
      clear hK K
      (try simp only [Act.put, List.setIfInBounds_toArray, List.set_cons_zero, List.set_cons_succ])
      refine wpAnyH_ready (rs := [3]) (by kernel_rfl) (by simp) ?_
      refine AllReadyH.cons (o := ⟨some 10, _, _, _, _, _⟩) rfl (fun K hK => ?_) AllReadyH.nil
      obtain ⟨hS1, hS2⟩ := hHeld
      go_simp
      (go_at_call 109; (with_reducible refine (PB.out _).mono ?_); rintro e w6 ⟨rfl, hs6⟩; clear a0 a1 a2 a3 la fa b0 b1 b2 b3 lb fb; obtain ⟨a0, a1, a2, a3⟩ := At.z4 (HA.out.fut (w' := w6)).at0; have la := (HA.out.fut (w' := w6)).lt; have fa := (HA.out.fut (w' := w6)).free; obtain ⟨b0, b1, b2, b3⟩ := At.z4 (HB.out.fut (w' := w6)).at0; have lb := (HB.out.fut (w' := w6)).lt; have fb := (HB.out.fut (w' := w6)).free)
      refine hK.out _ _ (by (try dsimp only); (exact ⟨Step.of, trivial⟩)) (fun hHeld => ?_)
      clear hK K
      (try simp only [Act.put, List.setIfInBounds_toArray, List.set_cons_zero, List.set_cons_succ])
      refine wpAnyH_ready (rs := [4]) (by kernel_rfl) (by simp) ?_
      refine AllReadyH.cons (o := ⟨none, _, _, _, _, _⟩) rfl (fun K hK => ?_) AllReadyH.nil
      go_simp
      refine hK.out _ _ (by (try dsimp only); (exact ⟨Step.of, trivial⟩)) (fun hHeld => ?_)
      clear hK K
      (try simp only [Act.put, List.setIfInBounds_toArray, List.set_cons_zero, List.set_cons_succ])
      refine wpAnyH_ready (rs := [5]) (by kernel_rfl) (by simp) ?_
      refine AllReadyH.cons (o := ⟨none, _, _, _, _, _⟩) rfl (fun K hK => ?_) AllReadyH.nil
      go_simp
      refine hK.out _ _ (by (try dsimp only); (exact ⟨Step.of, trivial⟩)) (fun hHeld => ?_)
      clear hK K
      (try simp only [Act.put, List.setIfInBounds_toArray, List.set_cons_zero, List.set_cons_succ])
      refine wpAnyH_done (by kernel_rfl) ?_ _
      have HA6 := hide (((HA.out.fut (w' := w6)).put4 (.int .i64 (kindV a)) (.int .i64 (clean a).i) (.bool (clean a).b) (.string (clean a).s)).far4 (r := w.heap.size + 1) (by omega) (.int .i64 (kindV b)) (.int .i64 (clean b).i) (.bool (clean b).b) (.string (clean b).s))
      have HB6 := hide (((HB.out.fut (w' := w6)).far4 (r := w.heap.size) (by omega) (.int .i64 (kindV a)) (.int .i64 (clean a).i) (.bool (clean a).b) (.string (clean a).s)).put4 (.int .i64 (kindV b)) (.int .i64 (clean b).i) (.bool (clean b).b) (.string (clean b).s))
      have HC6 := hide (((HC.out.fut (w' := w6)).far4 (r := w.heap.size) (by omega) (.int .i64 (kindV a)) (.int .i64 (clean a).i) (.bool (clean a).b) (.string (clean a).s)).far4 (r := w.heap.size + 1) (by omega) (.int .i64 (kindV b)) (.int .i64 (clean b).i) (.bool (clean b).b) (.string (clean b).s))
      have hb6 : Below w.heap.size w _ := below4 (below4 (fut w w6) (Nat.le_refl _) (.int .i64 (kindV a)) (.int .i64 (clean a).i) (.bool (clean a).b) (.string (clean a).s)) (Nat.le_add_right w.heap.size 1) (.int .i64 (kindV b)) (.int .i64 (clean b).i) (.bool (clean b).b) (.string (clean b).s)
      obtain ⟨X, hX⟩ : ∃ x : World, x = (((((((w6.setCell ⟨w.heap.size, 0, none⟩ (.int .i64 (kindV a))).setCell ⟨w.heap.size, 1, none⟩ (.int .i64 (clean a).i)).setCell ⟨w.heap.size, 2, none⟩ (.bool (clean a).b)).setCell ⟨w.heap.size, 3, none⟩ (.string (clean a).s)).setCell ⟨w.heap.size + 1, 0, none⟩ (.int .i64 (kindV b))).setCell ⟨w.heap.size + 1, 1, none⟩ (.int .i64 (clean b).i)).setCell ⟨w.heap.size + 1, 2, none⟩ (.bool (clean b).b)).setCell ⟨w.heap.size + 1, 3, none⟩ (.string (clean b).s) := ⟨_, rfl⟩
      rw [← hX] at HA6 HB6 HC6 hb6
      rw [← hX]
      clear hX a0 a1 a2 a3 la fa b0 b1 b2 b3 lb fb
      have hsX : Step w X := ⟨hb6⟩
      obtain ⟨a0, a1, a2, a3⟩ := At.z4 HA6.out.at0
      have la := HA6.out.lt
      obtain ⟨b0, b1, b2, b3⟩ := At.z4 HB6.out.at0
      have lb := HB6.out.lt
      obtain ⟨c0, c1, c2, c3⟩ := At.z4 HC6.out.at0
      have lc := HC6.out.lt
      have fc := HC6.out.free
      by_cases h0 : kindV a = 0
      · have g0 : (kindV a == 0) = true := by rw [h0]; rfl
        have HR : Hid (R.ag = .agg #[.int .i64 (kindV b), .int .i64 (clean b).i, .bool (clean b).b, .string (clean b).s]) := by show _ = _; rw [← HSR.out, selV, if_pos (Or.inl h0), clean_agD]
        clear h0
        go_wp2_with fail
        refine bodyPost_ret (v := .agg #[.int .i64 (kindV b), .int .i64 (clean b).i, .bool (clean b).b, .string (clean b).s]) (by simp [results, Tryz.results182, go_sem, c0, c1, c2, c3]) rfl ?_
        exact ⟨by rw [HR.out], Step.of⟩
      · have g0 : (kindV a == 0) = false := beq_eq_false_iff_ne.2 h0
        by_cases h1 : kindV b = 0
        · have g1 : (kindV b != 0) = false := by rw [h1]; rfl
          have HR : Hid (R.ag = .agg #[.int .i64 (kindV a), .int .i64 (clean a).i, .bool (clean a).b, .string (clean a).s]) := by show _ = _; rw [← HSR.out, selV, if_neg (by rintro (h | h); exact h0 h; exact h.1 h1), clean_agD]
          clear h0 h1
          go_wp2_with fail
          refine bodyPost_ret (v := .agg #[.int .i64 (kindV a), .int .i64 (clean a).i, .bool (clean a).b, .string (clean a).s]) (by simp [results, Tryz.results182, go_sem, c0, c1, c2, c3]) rfl ?_
          exact ⟨by rw [HR.out], Step.of⟩
        · have g1 : (kindV b != 0) = true := bne_iff_ne.2 h1
          cases hp : p (clean b) (clean a) with
          | true =>
            have HR : Hid (R.ag = .agg #[.int .i64 (kindV b), .int .i64 (clean b).i, .bool (clean b).b, .string (clean b).s]) := by show _ = _; rw [← HSR.out, selV, if_pos (Or.inr ⟨h1, hp⟩), clean_agD]
            rw [hp] at LF
            clear h0 h1 hp
            go_wp2_with (refine (LF.out _).mono ?_; rintro e w7 ⟨rfl, hs7⟩; clear a0 a1 a2 a3 la b0 b1 b2 b3 lb c0 c1 c2 c3 lc fc; obtain ⟨a0, a1, a2, a3⟩ := At.z4 (HA6.out.fut (w' := w7)).at0; have la := (HA6.out.fut (w' := w7)).lt; obtain ⟨b0, b1, b2, b3⟩ := At.z4 (HB6.out.fut (w' := w7)).at0; have lb := (HB6.out.fut (w' := w7)).lt; obtain ⟨c0, c1, c2, c3⟩ := At.z4 (HC6.out.fut (w' := w7)).at0; have lc := (HC6.out.fut (w' := w7)).lt; have fc := (HC6.out.fut (w' := w7)).free)
            refine bodyPost_ret (v := .agg #[.int .i64 (kindV b), .int .i64 (clean b).i, .bool (clean b).b, .string (clean b).s]) (by simp [results, Tryz.results182, go_sem, c0, c1, c2, c3]) rfl ?_
            exact ⟨by rw [HR.out], Step.of⟩
          | false =>
            have HR : Hid (R.ag = .agg #[.int .i64 (kindV a), .int .i64 (clean a).i, .bool (clean a).b, .string (clean a).s]) := by show _ = _; rw [← HSR.out, selV, if_neg (by rintro (h | h); exact h0 h; rw [hp] at h; cases h.2), clean_agD]
            rw [hp] at LF
            clear h0 h1 hp
            go_wp2_with (refine (LF.out _).mono ?_; rintro e w7 ⟨rfl, hs7⟩; clear a0 a1 a2 a3 la b0 b1 b2 b3 lb c0 c1 c2 c3 lc fc; obtain ⟨a0, a1, a2, a3⟩ := At.z4 (HA6.out.fut (w' := w7)).at0; have la := (HA6.out.fut (w' := w7)).lt; obtain ⟨b0, b1, b2, b3⟩ := At.z4 (HB6.out.fut (w' := w7)).at0; have lb := (HB6.out.fut (w' := w7)).lt; obtain ⟨c0, c1, c2, c3⟩ := At.z4 (HC6.out.fut (w' := w7)).at0; have lc := (HC6.out.fut (w' := w7)).lt; have fc := (HC6.out.fut (w' := w7)).free)
            refine bodyPost_ret (v := .agg #[.int .i64 (kindV a), .int .i64 (clean a).i, .bool (clean a).b, .string (clean a).s]) (by simp [results, Tryz.results182, go_sem, c0, c1, c2, c3]) rfl ?_
            exact ⟨by rw [HR.out], Step.of⟩
    · go_simp
      refine hK.out _ _ (by (try dsimp only); (exact ⟨Step.of, trivial⟩)) (fun hHeld => ?_)
      clear hK K
      (try simp only [Act.put, List.setIfInBounds_toArray, List.set_cons_zero, List.set_cons_succ])
      refine wpAnyH_ready (rs := [1]) (by kernel_rfl) (by simp) ?_
      refine AllReadyH.cons (o := ⟨some 8, _, _, _, _, _⟩) rfl (fun K hK => ?_) AllReadyH.nil
      obtain ⟨hS1, hS2⟩ := hHeld
      go_simp
      (go_at_call 109; (with_reducible refine (PA.out _).mono ?_); rintro e w5 ⟨rfl, hs5⟩; clear a0 a1 a2 a3 la fa b0 b1 b2 b3 lb fb; obtain ⟨a0, a1, a2, a3⟩ := At.z4 (HA.out.fut (w' := w5)).at0; have la := (HA.out.fut (w' := w5)).lt; have fa := (HA.out.fut (w' := w5)).free; obtain ⟨b0, b1, b2, b3⟩ := At.z4 (HB.out.fut (w' := w5)).at0; have lb := (HB.out.fut (w' := w5)).lt; have fb := (HB.out.fut (w' := w5)).free)
      refine hK.out _ _ (by (try dsimp only); (exact ⟨Step.of, trivial⟩)) (fun hHeld => ?_)
      clear hK K
      (try simp only [Act.put, List.setIfInBounds_toArray, List.set_cons_zero, List.set_cons_succ])
      refine wpAnyH_ready (rs := [3]) (by kernel_rfl) (by simp) ?_
      refine AllReadyH.cons (o := ⟨some 10, _, _, _, _, _⟩) rfl (fun K hK => ?_) AllReadyH.nil
      obtain ⟨hS1, hS2⟩ := hHeld
      go_simp
      (go_at_call 109; (with_reducible refine (PB.out _).mono ?_); rintro e w6 ⟨rfl, hs6⟩; clear a0 a1 a2 a3 la fa b0 b1 b2 b3 lb fb; obtain ⟨a0, a1, a2, a3⟩ := At.z4 (HA.out.fut (w' := w6)).at0; have la := (HA.out.fut (w' := w6)).lt; have fa := (HA.out.fut (w' := w6)).free; obtain ⟨b0, b1, b2, b3⟩ := At.z4 (HB.out.fut (w' := w6)).at0; have lb := (HB.out.fut (w' := w6)).lt; have fb := (HB.out.fut (w' := w6)).free)
      refine hK.out _ _ (by (try dsimp only); (exact ⟨Step.of, trivial⟩)) (fun hHeld => ?_)
      clear hK K
      (try simp only [Act.put, List.setIfInBounds_toArray, List.set_cons_zero, List.set_cons_succ])
      refine wpAnyH_ready (rs := [4]) (by kernel_rfl) (by simp) ?_
      refine AllReadyH.cons (o := ⟨none, _, _, _, _, _⟩) rfl (fun K hK => ?_) AllReadyH.nil
      go_simp
      refine hK.out _ _ (by (try dsimp only); (exact ⟨Step.of, trivial⟩)) (fun hHeld => ?_)
      clear hK K
      (try simp only [Act.put, List.setIfInBounds_toArray, List.set_cons_zero, List.set_cons_succ])
      refine wpAnyH_ready (rs := [5]) (by kernel_rfl) (by simp) ?_
      refine AllReadyH.cons (o := ⟨none, _, _, _, _, _⟩) rfl (fun K hK => ?_) AllReadyH.nil
      go_simp
      refine hK.out _ _ (by (try dsimp only); (exact ⟨Step.of, trivial⟩)) (fun hHeld => ?_)
      clear hK K
      (try simp only [Act.put, List.setIfInBounds_toArray, List.set_cons_zero, List.set_cons_succ])
      refine wpAnyH_done (by kernel_rfl) ?_ _
      have HA6 := hide (((HA.out.fut (w' := w6)).put4 (.int .i64 (kindV a)) (.int .i64 (clean a).i) (.bool (clean a).b) (.string (clean a).s)).far4 (r := w.heap.size + 1) (by omega) (.int .i64 (kindV b)) (.int .i64 (clean b).i) (.bool (clean b).b) (.string (clean b).s))
      have HB6 := hide (((HB.out.fut (w' := w6)).far4 (r := w.heap.size) (by omega) (.int .i64 (kindV a)) (.int .i64 (clean a).i) (.bool (clean a).b) (.string (clean a).s)).put4 (.int .i64 (kindV b)) (.int .i64 (clean b).i) (.bool (clean b).b) (.string (clean b).s))
      have HC6 := hide (((HC.out.fut (w' := w6)).far4 (r := w.heap.size) (by omega) (.int .i64 (kindV a)) (.int .i64 (clean a).i) (.bool (clean a).b) (.string (clean a).s)).far4 (r := w.heap.size + 1) (by omega) (.int .i64 (kindV b)) (.int .i64 (clean b).i) (.bool (clean b).b) (.string (clean b).s))
      have hb6 : Below w.heap.size w _ := below4 (below4 (fut w w6) (Nat.le_refl _) (.int .i64 (kindV a)) (.int .i64 (clean a).i) (.bool (clean a).b) (.string (clean a).s)) (Nat.le_add_right w.heap.size 1) (.int .i64 (kindV b)) (.int .i64 (clean b).i) (.bool (clean b).b) (.string (clean b).s)
      obtain ⟨X, hX⟩ : ∃ x : World, x = (((((((w6.setCell ⟨w.heap.size, 0, none⟩ (.int .i64 (kindV a))).setCell ⟨w.heap.size, 1, none⟩ (.int .i64 (clean a).i)).setCell ⟨w.heap.size, 2, none⟩ (.bool (clean a).b)).setCell ⟨w.heap.size, 3, none⟩ (.string (clean a).s)).setCell ⟨w.heap.size + 1, 0, none⟩ (.int .i64 (kindV b))).setCell ⟨w.heap.size + 1, 1, none⟩ (.int .i64 (clean b).i)).setCell ⟨w.heap.size + 1, 2, none⟩ (.bool (clean b).b)).setCell ⟨w.heap.size + 1, 3, none⟩ (.string (clean b).s) := ⟨_, rfl⟩
      rw [← hX] at HA6 HB6 HC6 hb6
      rw [← hX]
      clear hX a0 a1 a2 a3 la fa b0 b1 b2 b3 lb fb
      have hsX : Step w X := ⟨hb6⟩
      obtain ⟨a0, a1, a2, a3⟩ := At.z4 HA6.out.at0
      have la := HA6.out.lt
      obtain ⟨b0, b1, b2, b3⟩ := At.z4 HB6.out.at0
      have lb := HB6.out.lt
      obtain ⟨c0, c1, c2, c3⟩ := At.z4 HC6.out.at0
      have lc := HC6.out.lt
      have fc := HC6.out.free
      by_cases h0 : kindV a = 0
      · have g0 : (kindV a == 0) = true := by rw [h0]; rfl
        have HR : Hid (R.ag = .agg #[.int .i64 (kindV b), .int .i64 (clean b).i, .bool (clean b).b, .string (clean b).s]) := by show _ = _; rw [← HSR.out, selV, if_pos (Or.inl h0), clean_agD]
        clear h0
        go_wp2_with fail
        refine bodyPost_ret (v := .agg #[.int .i64 (kindV b), .int .i64 (clean b).i, .bool (clean b).b, .string (clean b).s]) (by simp [results, Tryz.results182, go_sem, c0, c1, c2, c3]) rfl ?_
        exact ⟨by rw [HR.out], Step.of⟩
      · have g0 : (kindV a == 0) = false := beq_eq_false_iff_ne.2 h0
        by_cases h1 : kindV b = 0
        · have g1 : (kindV b != 0) = false := by rw [h1]; rfl
          have HR : Hid (R.ag = .agg #[.int .i64 (kindV a), .int .i64 (clean a).i, .bool (clean a).b, .string (clean a).s]) := by show _ = _; rw [← HSR.out, selV, if_neg (by rintro (h | h); exact h0 h; exact h.1 h1), clean_agD]
          clear h0 h1
          go_wp2_with fail
          refine bodyPost_ret (v := .agg #[.int .i64 (kindV a), .int .i64 (clean a).i, .bool (clean a).b, .string (clean a).s]) (by simp [results, Tryz.results182, go_sem, c0, c1, c2, c3]) rfl ?_
          exact ⟨by rw [HR.out], Step.of⟩
        · have g1 : (kindV b != 0) = true := bne_iff_ne.2 h1
          cases hp : p (clean b) (clean a) with
          | true =>
            have HR : Hid (R.ag = .agg #[.int .i64 (kindV b), .int .i64 (clean b).i, .bool (clean b).b, .string (clean b).s]) := by show _ = _; rw [← HSR.out, selV, if_pos (Or.inr ⟨h1, hp⟩), clean_agD]
            rw [hp] at LF
            clear h0 h1 hp
            go_wp2_with (refine (LF.out _).mono ?_; rintro e w7 ⟨rfl, hs7⟩; clear a0 a1 a2 a3 la b0 b1 b2 b3 lb c0 c1 c2 c3 lc fc; obtain ⟨a0, a1, a2, a3⟩ := At.z4 (HA6.out.fut (w' := w7)).at0; have la := (HA6.out.fut (w' := w7)).lt; obtain ⟨b0, b1, b2, b3⟩ := At.z4 (HB6.out.fut (w' := w7)).at0; have lb := (HB6.out.fut (w' := w7)).lt; obtain ⟨c0, c1, c2, c3⟩ := At.z4 (HC6.out.fut (w' := w7)).at0; have lc := (HC6.out.fut (w' := w7)).lt; have fc := (HC6.out.fut (w' := w7)).free)
            refine bodyPost_ret (v := .agg #[.int .i64 (kindV b), .int .i64 (clean b).i, .bool (clean b).b, .string (clean b).s]) (by simp [results, Tryz.results182, go_sem, c0, c1, c2, c3]) rfl ?_
            exact ⟨by rw [HR.out], Step.of⟩
          | false =>
            have HR : Hid (R.ag = .agg #[.int .i64 (kindV a), .int .i64 (clean a).i, .bool (clean a).b, .string (clean a).s]) := by show _ = _; rw [← HSR.out, selV, if_neg (by rintro (h | h); exact h0 h; rw [hp] at h; cases h.2), clean_agD]
            rw [hp] at LF
            clear h0 h1 hp
            go_wp2_with (refine (LF.out _).mono ?_; rintro e w7 ⟨rfl, hs7⟩; clear a0 a1 a2 a3 la b0 b1 b2 b3 lb c0 c1 c2 c3 lc fc; obtain ⟨a0, a1, a2, a3⟩ := At.z4 (HA6.out.fut (w' := w7)).at0; have la := (HA6.out.fut (w' := w7)).lt; obtain ⟨b0, b1, b2, b3⟩ := At.z4 (HB6.out.fut (w' := w7)).at0; have lb := (HB6.out.fut (w' := w7)).lt; obtain ⟨c0, c1, c2, c3⟩ := At.z4 (HC6.out.fut (w' := w7)).at0; have lc := (HC6.out.fut (w' := w7)).lt; have fc := (HC6.out.fut (w' := w7)).free)
            refine bodyPost_ret (v := .agg #[.int .i64 (kindV a), .int .i64 (clean a).i, .bool (clean a).b, .string (clean a).s]) (by simp [results, Tryz.results182, go_sem, c0, c1, c2, c3]) rfl ?_
            exact ⟨by rw [HR.out], Step.of⟩
  · go_simp
    refine hK.out _ _ (by (try dsimp only); (exact ⟨Step.of, trivial⟩)) (fun hHeld => ?_)
    clear hK K
    (try simp only [Act.put, List.setIfInBounds_toArray, List.set_cons_zero, List.set_cons_succ])
    refine wpAnyH_ready (rs := [0]) (by kernel_rfl) (by simp) ?_
    refine AllReadyH.cons (o := ⟨some 7, _, _, _, _, _⟩) rfl (fun K hK => ?_) AllReadyH.nil
    go_simp
    refine hK.out _ _ (by (try dsimp only); (exact ⟨Step.of, trivial⟩)) (fun hHeld => ?_)
    clear hK K
    (try simp only [Act.put, List.setIfInBounds_toArray, List.set_cons_zero, List.set_cons_succ])
    refine wpAnyH_ready (rs := [1]) (by kernel_rfl) (by simp) ?_
    refine AllReadyH.cons (o := ⟨some 8, _, _, _, _, _⟩) rfl (fun K hK => ?_) AllReadyH.nil
    obtain ⟨hS1, hS2⟩ := hHeld
    go_simp
    (go_at_call 109; (with_reducible refine (PA.out _).mono ?_); rintro e w5 ⟨rfl, hs5⟩; clear a0 a1 a2 a3 la fa b0 b1 b2 b3 lb fb; obtain ⟨a0, a1, a2, a3⟩ := At.z4 (HA.out.fut (w' := w5)).at0; have la := (HA.out.fut (w' := w5)).lt; have fa := (HA.out.fut (w' := w5)).free; obtain ⟨b0, b1, b2, b3⟩ := At.z4 (HB.out.fut (w' := w5)).at0; have lb := (HB.out.fut (w' := w5)).lt; have fb := (HB.out.fut (w' := w5)).free)
    refine hK.out _ _ (by (try dsimp only); (exact ⟨Step.of, trivial⟩)) (fun hHeld => ?_)
    clear hK K
    (try simp only [Act.put, List.setIfInBounds_toArray, List.set_cons_zero, List.set_cons_succ])
    refine wpAnyH_ready (rs := [3]) (by kernel_rfl) (by simp) ?_
    refine AllReadyH.cons (o := ⟨some 10, _, _, _, _, _⟩) rfl (fun K hK => ?_) AllReadyH.nil
    obtain ⟨hS1, hS2⟩ := hHeld
    go_simp
    (go_at_call 109; (with_reducible refine (PB.out _).mono ?_); rintro e w6 ⟨rfl, hs6⟩; clear a0 a1 a2 a3 la fa b0 b1 b2 b3 lb fb; obtain ⟨a0, a1, a2, a3⟩ := At.z4 (HA.out.fut (w' := w6)).at0; have la := (HA.out.fut (w' := w6)).lt; have fa := (HA.out.fut (w' := w6)).free; obtain ⟨b0, b1, b2, b3⟩ := At.z4 (HB.out.fut (w' := w6)).at0; have lb := (HB.out.fut (w' := w6)).lt; have fb := (HB.out.fut (w' := w6)).free)
    refine hK.out _ _ (by (try dsimp only); (exact ⟨Step.of, trivial⟩)) (fun hHeld => ?_)
    clear hK K
    (try simp only [Act.put, List.setIfInBounds_toArray, List.set_cons_zero, List.set_cons_succ])
    refine wpAnyH_ready (rs := [4]) (by kernel_rfl) (by simp) ?_
    refine AllReadyH.cons (o := ⟨none, _, _, _, _, _⟩) rfl (fun K hK => ?_) AllReadyH.nil
    go_simp
    refine hK.out _ _ (by (try dsimp only); (exact ⟨Step.of, trivial⟩)) (fun hHeld => ?_)
    clear hK K
    (try simp only [Act.put, List.setIfInBounds_toArray, List.set_cons_zero, List.set_cons_succ])
    refine wpAnyH_ready (rs := [5]) (by kernel_rfl) (by simp) ?_
    refine AllReadyH.cons (o := ⟨none, _, _, _, _, _⟩) rfl (fun K hK => ?_) AllReadyH.nil
    go_simp
    refine hK.out _ _ (by (try dsimp only); (exact ⟨Step.of, trivial⟩)) (fun hHeld => ?_)
    clear hK K
    (try simp only [Act.put, List.setIfInBounds_toArray, List.set_cons_zero, List.set_cons_succ])
    refine wpAnyH_done (by kernel_rfl) ?_ _
    have HA6 := hide (((HA.out.fut (w' := w6)).put4 (.int .i64 (kindV a)) (.int .i64 (clean a).i) (.bool (clean a).b) (.string (clean a).s)).far4 (r := w.heap.size + 1) (by omega) (.int .i64 (kindV b)) (.int .i64 (clean b).i) (.bool (clean b).b) (.string (clean b).s))
    have HB6 := hide (((HB.out.fut (w' := w6)).far4 (r := w.heap.size) (by omega) (.int .i64 (kindV a)) (.int .i64 (clean a).i) (.bool (clean a).b) (.string (clean a).s)).put4 (.int .i64 (kindV b)) (.int .i64 (clean b).i) (.bool (clean b).b) (.string (clean b).s))
    have HC6 := hide (((HC.out.fut (w' := w6)).far4 (r := w.heap.size) (by omega) (.int .i64 (kindV a)) (.int .i64 (clean a).i) (.bool (clean a).b) (.string (clean a).s)).far4 (r := w.heap.size + 1) (by omega) (.int .i64 (kindV b)) (.int .i64 (clean b).i) (.bool (clean b).b) (.string (clean b).s))
    have hb6 : Below w.heap.size w _ := below4 (below4 (fut w w6) (Nat.le_refl _) (.int .i64 (kindV a)) (.int .i64 (clean a).i) (.bool (clean a).b) (.string (clean a).s)) (Nat.le_add_right w.heap.size 1) (.int .i64 (kindV b)) (.int .i64 (clean b).i) (.bool (clean b).b) (.string (clean b).s)
    obtain ⟨X, hX⟩ : ∃ x : World, x = (((((((w6.setCell ⟨w.heap.size, 0, none⟩ (.int .i64 (kindV a))).setCell ⟨w.heap.size, 1, none⟩ (.int .i64 (clean a).i)).setCell ⟨w.heap.size, 2, none⟩ (.bool (clean a).b)).setCell ⟨w.heap.size, 3, none⟩ (.string (clean a).s)).setCell ⟨w.heap.size + 1, 0, none⟩ (.int .i64 (kindV b))).setCell ⟨w.heap.size + 1, 1, none⟩ (.int .i64 (clean b).i)).setCell ⟨w.heap.size + 1, 2, none⟩ (.bool (clean b).b)).setCell ⟨w.heap.size + 1, 3, none⟩ (.string (clean b).s) := ⟨_, rfl⟩
    rw [← hX] at HA6 HB6 HC6 hb6
    rw [← hX]
    clear hX a0 a1 a2 a3 la fa b0 b1 b2 b3 lb fb
    have hsX : Step w X := ⟨hb6⟩
    obtain ⟨a0, a1, a2, a3⟩ := At.z4 HA6.out.at0
    have la := HA6.out.lt
    obtain ⟨b0, b1, b2, b3⟩ := At.z4 HB6.out.at0
    have lb := HB6.out.lt
    obtain ⟨c0, c1, c2, c3⟩ := At.z4 HC6.out.at0
    have lc := HC6.out.lt
    have fc := HC6.out.free
    by_cases h0 : kindV a = 0
    · have g0 : (kindV a == 0) = true := by rw [h0]; rfl
      have HR : Hid (R.ag = .agg #[.int .i64 (kindV b), .int .i64 (clean b).i, .bool (clean b).b, .string (clean b).s]) := by show _ = _; rw [← HSR.out, selV, if_pos (Or.inl h0), clean_agD]
      clear h0
      go_wp2_with fail
      refine bodyPost_ret (v := .agg #[.int .i64 (kindV b), .int .i64 (clean b).i, .bool (clean b).b, .string (clean b).s]) (by simp [results, Tryz.results182, go_sem, c0, c1, c2, c3]) rfl ?_
      exact ⟨by rw [HR.out], Step.of⟩
    · have g0 : (kindV a == 0) = false := beq_eq_false_iff_ne.2 h0
      by_cases h1 : kindV b = 0
      · have g1 : (kindV b != 0) = false := by rw [h1]; rfl
        have HR : Hid (R.ag = .agg #[.int .i64 (kindV a), .int .i64 (clean a).i, .bool (clean a).b, .string (clean a).s]) := by show _ = _; rw [← HSR.out, selV, if_neg (by rintro (h | h); exact h0 h; exact h.1 h1), clean_agD]
        clear h0 h1
        go_wp2_with fail
        refine bodyPost_ret (v := .agg #[.int .i64 (kindV a), .int .i64 (clean a).i, .bool (clean a).b, .string (clean a).s]) (by simp [results, Tryz.results182, go_sem, c0, c1, c2, c3]) rfl ?_
        exact ⟨by rw [HR.out], Step.of⟩
      · have g1 : (kindV b != 0) = true := bne_iff_ne.2 h1
        cases hp : p (clean b) (clean a) with
        | true =>
          have HR : Hid (R.ag = .agg #[.int .i64 (kindV b), .int .i64 (clean b).i, .bool (clean b).b, .string (clean b).s]) := by show _ = _; rw [← HSR.out, selV, if_pos (Or.inr ⟨h1, hp⟩), clean_agD]
          rw [hp] at LF
          clear h0 h1 hp
          go_wp2_with (refine (LF.out _).mono ?_; rintro e w7 ⟨rfl, hs7⟩; clear a0 a1 a2 a3 la b0 b1 b2 b3 lb c0 c1 c2 c3 lc fc; obtain ⟨a0, a1, a2, a3⟩ := At.z4 (HA6.out.fut (w' := w7)).at0; have la := (HA6.out.fut (w' := w7)).lt; obtain ⟨b0, b1, b2, b3⟩ := At.z4 (HB6.out.fut (w' := w7)).at0; have lb := (HB6.out.fut (w' := w7)).lt; obtain ⟨c0, c1, c2, c3⟩ := At.z4 (HC6.out.fut (w' := w7)).at0; have lc := (HC6.out.fut (w' := w7)).lt; have fc := (HC6.out.fut (w' := w7)).free)
          refine bodyPost_ret (v := .agg #[.int .i64 (kindV b), .int .i64 (clean b).i, .bool (clean b).b, .string (clean b).s]) (by simp [results, Tryz.results182, go_sem, c0, c1, c2, c3]) rfl ?_
          exact ⟨by rw [HR.out], Step.of⟩
        | false =>
          have HR : Hid (R.ag = .agg #[.int .i64 (kindV a), .int .i64 (clean a).i, .bool (clean a).b, .string (clean a).s]) := by show _ = _; rw [← HSR.out, selV, if_neg (by rintro (h | h); exact h0 h; rw [hp] at h; cases h.2), clean_agD]
          rw [hp] at LF
          clear h0 h1 hp
          go_wp2_with (refine (LF.out _).mono ?_; rintro e w7 ⟨rfl, hs7⟩; clear a0 a1 a2 a3 la b0 b1 b2 b3 lb c0 c1 c2 c3 lc fc; obtain ⟨a0, a1, a2, a3⟩ := At.z4 (HA6.out.fut (w' := w7)).at0; have la := (HA6.out.fut (w' := w7)).lt; obtain ⟨b0, b1, b2, b3⟩ := At.z4 (HB6.out.fut (w' := w7)).at0; have lb := (HB6.out.fut (w' := w7)).lt; obtain ⟨c0, c1, c2, c3⟩ := At.z4 (HC6.out.fut (w' := w7)).at0; have lc := (HC6.out.fut (w' := w7)).lt; have fc := (HC6.out.fut (w' := w7)).free)
          refine bodyPost_ret (v := .agg #[.int .i64 (kindV a), .int .i64 (clean a).i, .bool (clean a).b, .string (clean a).s]) (by simp [results, Tryz.results182, go_sem, c0, c1, c2, c3]) rfl ?_
          exact ⟨by rw [HR.out], Step.of⟩
theorem more_any (a b : Val) (w : World) : Calls Tryz.prog 184 #[a.val, b.val] w fun e w' => e = .returned (.bool (lessV b a)) ∧ Step w w' := by
  have LV := hide (pless_any b a)
  unfold Val.val at LV ⊢
  go_enter Tryz.func184, Tryz.ntmps184
  go_wp2_with (go_at_call 183; (with_reducible refine (LV.out _).mono ?_); rintro e w3 ⟨rfl, hs3⟩)
  go_ret
  exact ⟨rfl, Step.of⟩
end Go.Proofs.YtnphokhehacfnaaGreatDoor

