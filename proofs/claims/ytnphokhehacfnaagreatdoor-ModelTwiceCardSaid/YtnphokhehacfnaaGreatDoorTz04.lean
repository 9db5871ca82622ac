/-
  Texts put together: Xd, Xe, Xh, Xi.
-/
import Derived.Test.YtnphokhehacfnaaGreatDoorTz03
import Derived.Test.YtnphokhehacfnaaGreatDoorTz90
import Derived.Test.YtnphokhehacfnaaGreatDoorTz91
namespace Go.Proofs.YtnphokhehacfnaaGreatDoor
open Go.RowKit

set_option maxRecDepth 100000 in
set_option maxHeartbeats 16000000 in
theorem part_any {w1 : World} (g D T O : Nat) (t : TbA) (o : OpA) (w : World) (h : Doer w g D T O t o) (ho : OpIn w1 o) [f1 : Fut w1 w] (hf : TbFine t) (hg : g ≤ w.heap.size) (hs0 : 0 ≤ t.sid) (hs1 : t.sid ≤ 2147483647) :
    Calls Tryz.prog 94 #[.pointer (some ⟨D, 0, none⟩)] w fun e w' => RunR g T w (partP25 t.tb o.op) e w' := by
  have HSC := hide (h.own.r.tin hf).sch
  have HD := hide h
  have hfsm := ho.fsm; have hcap := ho.flds.hcap; have hcapm := ho.flds.hcapm; have hlen := ho.flds.len
  have HWR : Hid (wrap64 (t.sid + 1) = t.sid + 1) := by show _ = _; rw [wrap64]; omega
  have CL : Hid (∀ (w' : World), Fut w w' → Calls Tryz.prog 85 #[.slice o.Af o.fs.length o.cf] w' fun e w'' => ∃ (A' : Option Addr) (c' : Nat), e = .returned (.slice A' o.fs.length c') ∧ (Own w'' w.heap.size 92 3 (.slice A' o.fs.length c') (o.fs.map Fld.cells)) ∧ Step w' w'') := fun w' hq => by
    haveI := Fut.tr f1 hq
    refine (cloneF_any o.Af o.cf o.fs w' (ho.flds.fut (w' := w')).at_ hfsm).mono ?_
    rintro e w'' ⟨A', c', he, _, _, h3, h4⟩
    exact ⟨A', c', he, h3.more hq.below.size, ⟨h4⟩⟩
  obtain ⟨R, hR⟩ : ∃ R, partP25 t.tb o.op = R := ⟨_, rfl⟩
  have HR : Hid ((if specB (wrap64 (t.sid + 1)) o.fs t.s = false then .error 5 else .ok ⟨t.s, t.sid + 1, o.fs, t.rs.map RowA.vs⟩) = R) := hR
  rw [HWR.out] at HR
  have hwr : IntKind.i64.wrap (t.sid + 1) = t.sid + 1 := by rw [IntKind.wrap_i64]; omega
  rw [hR]
  clear hR h
  obtain ⟨d0, d1⟩ := At.z2 (HD.out.d.fut (w' := w)).at0
  have ld := (HD.out.d.fut (w' := w)).lt
  obtain ⟨t0, t1, t2, t3, t4, t5⟩ := At.z6 (HD.out.tb.fut (w' := w)).at0
  have lt_ := (HD.out.tb.fut (w' := w)).lt
  have ft_ := (HD.out.tb.fut (w' := w)).free
  obtain ⟨o0, o1, o2, o3, o4, o5, o6, o7, o8, o9, o10, o11, o12, o13, o14, o15⟩ := At.zOp (HD.out.op.fut (w' := w)).at0
  have lo := (HD.out.op.fut (w' := w)).lt
  unfold TbA.cells at *
  go_enter Tryz.func94, Tryz.ntmps94
  go_upto_region 0 with fail
  refine wp_region_held_drew (S := (fun w' => Step w w' ∧ (∀ b o, b < w.heap.size → w'.cell? ⟨b, o, none⟩ = w.cell? ⟨b, o, none⟩))) (by kernel_rfl) (by (try dsimp only); (first | exact ⟨hS1, hS2⟩ | exact ⟨Step.of, (bcell (fut _ _)).1⟩)) (fun hHeld => ?_)
  refine wT 0 3 (by assumption) ?_
  refine wT 9 12 (by assumption) ?_
  refine wT 1 4 (by assumption) ?_
  refine wT 10 13 (by assumption) ?_
  refine wT 2 5 (by assumption) ?_
  refine wT 11 14 (by assumption) ?_
  refine wT 3 6 (by assumption) ?_
  refine wT 12 15 (by assumption) ?_
  refine wT 4 7 (by assumption) ?_
  refine wT 13 16 (by assumption) ?_
  refine wT 5 8 (by assumption) ?_
  refine wT 14 17 (by assumption) ?_
  refine wT 6 9 (by assumption) ?_
  refine wT 15 18 (by assumption) ?_
  refine wT 7 10 (by assumption) ?_
  refine wT 8 11 (by assumption) ?_
  refine wpAnyH_ready (rs := [16, 18]) (by kernel_rfl) (by simp) ?_
  refine AllReadyH.cons (o := ⟨some 19, _, _, _, _, _⟩) rfl (fun K hK => ?_) (AllReadyH.cons (o := ⟨some 2, _, _, _, _, _⟩) rfl (fun K hK => ?_) AllReadyH.nil)
  · obtain ⟨hS1, hS2⟩ := hHeld
    go_simp
    (go_at_call 85; (with_reducible refine (CL.out _ inferInstance).mono ?_); rintro e w3 ⟨A3, c3, rfl, ho3, hs3⟩; have HO3 := hide ho3; clear ho3; try (have hp3 := HPB.out.fut (w' := w3); obtain ⟨p0, p1⟩ := At.z2 hp3.at0; have lp := hp3.lt; have fp := hp3.free; clear hp3))
    refine hK.out _ _ (by (try dsimp only); (first | exact ⟨hS1, hS2⟩ | exact ⟨Step.of, (bcell (fut _ _)).1⟩)) (fun hHeld => ?_)
    clear hK K
    (try simp only [Act.put, List.setIfInBounds_toArray, List.set_cons_zero, List.set_cons_succ])
    refine wT 17 20 (by assumption) ?_
    refine wpAnyH_ready (rs := [18]) (by kernel_rfl) (by simp) ?_
    refine AllReadyH.cons (o := ⟨some 2, _, _, _, _, _⟩) rfl (fun K hK => ?_) AllReadyH.nil
    go_simp
    first | (have HPB := hide (Blk.new w3 [.int .i64 0, .slice none 0 0] 27)) | (have HPB := hide (Blk.new w [.int .i64 0, .slice none 0 0] 27))
    obtain ⟨p0, p1⟩ := At.z2 HPB.out.at0
    have lp := HPB.out.lt
    have fp := HPB.out.free
    refine hK.out _ _ (by (try dsimp only); (first | exact ⟨hS1, hS2⟩ | exact ⟨Step.of, (bcell (fut _ _)).1⟩)) (fun hHeld => ?_)
    clear hK K
    (try simp only [Act.put, List.setIfInBounds_toArray, List.set_cons_zero, List.set_cons_succ])
    refine wpAnyH_ready (rs := [19]) (by kernel_rfl) (by simp) ?_
    refine AllReadyH.cons (o := ⟨none, _, _, _, _, _⟩) rfl (fun K hK => ?_) AllReadyH.nil
    go_simp
    refine hK.out _ _ (by (try dsimp only); (constructor; exact Step.of; intro b o h; exact (fut w _).cell (p := ⟨b, o, none⟩) h)) (fun hHeld => ?_)
    clear hK K
    (try simp only [Act.put, List.setIfInBounds_toArray, List.set_cons_zero, List.set_cons_succ])
    refine wpAnyH_done (by kernel_rfl) ?_ _
    obtain ⟨x1, hx1⟩ : ∃ x : World, x = w3.alloc (.cells #[.int .i64 (t.sid + 1), .slice A3 o.fs.length c3] 27) := ⟨_, rfl⟩
    obtain ⟨pb, hpb⟩ : ∃ pb : Nat, pb = w3.heap.size := ⟨_, rfl⟩
    have HPX : Hid (Blk x1 pb 27 [.int .i64 (t.sid + 1), .slice A3 o.fs.length c3]) := by rw [hx1, hpb]; exact Blk.new w3 [.int .i64 (t.sid + 1), .slice A3 o.fs.length c3] 27
    have SX1 : Step w3 x1 := by rw [hx1]; exact Step.of
    have HFX : Hid (Own x1 w.heap.size 92 3 (.slice A3 o.fs.length c3) (o.fs.map Fld.cells)) := HO3.out.fut
    rw [← hx1, ← hpb]
    clear hx1 hpb HPB HO3 p0 p1 lp fp d0 d1 ld t0 t1 t2 t3 t4 t5 lt_ ft_ o0 o1 o2 o3 o4 o5 o6 o7 o8 o9 o10 o11 o12 o13 o14 o15 lo
    have HFS : Hid (FsIn x1 o.fs A3 c3) := by
      obtain ⟨A2, c2, e2, k1, k2, k3, _⟩ := HFX.out.slice (flds_fit o.fs).len (by simp : (o.fs.map Fld.cells).length = o.fs.length)
      injection e2 with b1 b2 b3
      exact ⟨by rw [b3]; exact k1, by rw [b3]; simpa [maxLen] using k2, by omega, by rw [b1]; exact k3⟩
    have hwx : Fut w x1 := inferInstance
    have SM := fun (w' : World) (hq : Fut x1 w') => haveI : Fut w w' := Fut.tr hwx hq; pspec_any (w0 := x1) (w1 := w) (t.sid + 1) o.fs A3 c3 t.s t.As t.cs w' HFS.out HSC.out
    clear hwx
    unfold Sch.val at SM
    obtain ⟨d0, d1⟩ := At.z2 (HD.out.d.fut (w' := x1)).at0
    have ld := (HD.out.d.fut (w' := x1)).lt
    obtain ⟨t0, t1, t2, t3, t4, t5⟩ := At.z6 (HD.out.tb.fut (w' := x1)).at0
    have lt_ := (HD.out.tb.fut (w' := x1)).lt
    have ft_ := (HD.out.tb.fut (w' := x1)).free
    obtain ⟨o0, o1, o2, o3, o4, o5, o6, o7, o8, o9, o10, o11, o12, o13, o14, o15⟩ := At.zOp (HD.out.op.fut (w' := x1)).at0
    have lo := (HD.out.op.fut (w' := x1)).lt
    obtain ⟨p0, p1⟩ := At.z2 HPX.out.at0
    have lp := HPX.out.lt
    cases hb : specB (t.sid + 1) o.fs t.s with
    | false =>
      have HE : Hid (R = .error 5) := by show _ = _; rw [← HR.out, if_pos hb]
      rw [hb] at SM
      have SM := hide SM
      clear hb
      go_upto_region 1 with fail
      refine wp_region_held_drew (S := (fun w' => Step x1 w' ∧ (∀ b o, b < x1.heap.size → w'.cell? ⟨b, o, none⟩ = x1.cell? ⟨b, o, none⟩))) (by kernel_rfl) (by (try dsimp only); (first | exact ⟨hS1, hS2⟩ | exact ⟨Step.of, (bcell (fut _ _)).1⟩)) (fun hHeld => ?_)
      refine wT 0 21 (by assumption) ?_
      refine wT 1 22 (by assumption) ?_
      refine wT 2 23 (by assumption) ?_
      refine wT 3 24 (by assumption) ?_
      refine wT 4 25 (by assumption) ?_
      refine wT 5 26 (by assumption) ?_
      refine wT 6 27 (by assumption) ?_
      refine wT 7 28 (by assumption) ?_
      refine wpAnyH_ready (rs := [8]) (by kernel_rfl) (by simp) ?_
      refine AllReadyH.cons (o := ⟨some 29, _, _, _, _, _⟩) rfl (fun K hK => ?_) AllReadyH.nil
      obtain ⟨hS1, hS2⟩ := hHeld
      go_simp
      (go_at_call 55; (with_reducible refine (SM.out _ inferInstance).mono ?_); rintro e w5 ⟨rfl, hs5⟩)
      refine hK.out _ _ (by (try dsimp only); (first | exact ⟨hS1, hS2⟩ | exact ⟨Step.of, (bcell (fut _ _)).1⟩)) (fun hHeld => ?_)
      clear hK K
      (try simp only [Act.put, List.setIfInBounds_toArray, List.set_cons_zero, List.set_cons_succ])
      refine wT 9 30 (by assumption) ?_
      refine wpAnyH_ready (rs := [10]) (by kernel_rfl) (by simp) ?_
      refine AllReadyH.cons (o := ⟨some 31, _, _, _, _, _⟩) rfl (fun K hK => ?_) AllReadyH.nil
      obtain ⟨hS1, hS2⟩ := hHeld
      go_simp
      (go_at_call 122; (with_reducible refine (throw_yes _ _).mono ?_); rintro e w9 ⟨rfl, h9⟩; obtain rfl := h9.symm)
      exact ⟨rfl, by rw [HE.out]; exact ⟨Mt.step hg (fut w w5), rfl⟩⟩
    | true =>
      have HE : Hid (R = .ok ⟨t.s, t.sid + 1, o.fs, t.rs.map RowA.vs⟩) := by show _ = _; rw [← HR.out, if_neg (by rw [hb]; simp)]
      rw [hb] at SM
      have SM := hide SM
      clear hb
      go_upto_region 1 with fail
      refine wp_region_held_drew (S := (fun w' => Step x1 w' ∧ (∀ b o, b < x1.heap.size → w'.cell? ⟨b, o, none⟩ = x1.cell? ⟨b, o, none⟩))) (by kernel_rfl) (by (try dsimp only); (first | exact ⟨hS1, hS2⟩ | exact ⟨Step.of, (bcell (fut _ _)).1⟩)) (fun hHeld => ?_)
      refine wT 0 21 (by assumption) ?_
      refine wT 1 22 (by assumption) ?_
      refine wT 2 23 (by assumption) ?_
      refine wT 3 24 (by assumption) ?_
      refine wT 4 25 (by assumption) ?_
      refine wT 5 26 (by assumption) ?_
      refine wT 6 27 (by assumption) ?_
      refine wT 7 28 (by assumption) ?_
      refine wpAnyH_ready (rs := [8]) (by kernel_rfl) (by simp) ?_
      refine AllReadyH.cons (o := ⟨some 29, _, _, _, _, _⟩) rfl (fun K hK => ?_) AllReadyH.nil
      obtain ⟨hS1, hS2⟩ := hHeld
      go_simp
      (go_at_call 55; (with_reducible refine (SM.out _ inferInstance).mono ?_); rintro e w5 ⟨rfl, hs5⟩)
      refine hK.out _ _ (by (try dsimp only); (first | exact ⟨hS1, hS2⟩ | exact ⟨Step.of, (bcell (fut _ _)).1⟩)) (fun hHeld => ?_)
      clear hK K
      (try simp only [Act.put, List.setIfInBounds_toArray, List.set_cons_zero, List.set_cons_succ])
      refine wT 9 30 (by assumption) ?_
      refine wpAnyH_ready (rs := [10]) (by kernel_rfl) (by simp) ?_
      refine AllReadyH.cons (o := ⟨some 31, _, _, _, _, _⟩) rfl (fun K hK => ?_) AllReadyH.nil
      obtain ⟨hS1, hS2⟩ := hHeld
      go_simp
      (go_at_call 122; (with_reducible refine (throw_no _ _).mono ?_); rintro e w9 ⟨rfl, h9⟩; obtain rfl := h9.symm)
      refine hK.out _ _ (by (try dsimp only); (first | exact ⟨hS1, hS2⟩ | exact ⟨Step.of, (bcell (fut _ _)).1⟩)) (fun hHeld => ?_)
      clear hK K
      (try simp only [Act.put, List.setIfInBounds_toArray, List.set_cons_zero, List.set_cons_succ])
      refine wpAnyH_done (by kernel_rfl) ?_ _
      clear p0 p1 lp; clear d0 d1 ld t0 t1 t2 t3 t4 t5 lt_ ft_ o0 o1 o2 o3 o4 o5 o6 o7 o8 o9 o10 o11 o12 o13 o14 o15 lo
      obtain ⟨x5, hx5⟩ : ∃ x : World, x = w5 := ⟨_, rfl⟩
      rw [← hx5] at hs5 ⊢
      clear hx5
      have HPX5 := hide (HPX.out.fut (w' := x5))
      have HT5 := hide (HD.out.tb.fut (w' := x5))
      have HTF : Hid (Blk (((x5.setCell ⟨T, 3, none⟩ (.int .i64 (t.sid + 1))).setCell ⟨T, 4, none⟩ (.slice A3 o.fs.length c3)).drew) T 30 [.int .i64 t.s.id, .slice t.As t.s.cols.length t.cs, .int .i64 t.s.next, .int .i64 (t.sid + 1), .slice A3 o.fs.length c3, .slice t.Ar t.rs.length t.cr]) := (HT5.out.set_ 3 (.int .i64 (t.sid + 1))).set_ 4 (.slice A3 o.fs.length c3)
      have HOF : Hid (TbOwnR (((x5.setCell ⟨T, 3, none⟩ (.int .i64 (t.sid + 1))).setCell ⟨T, 4, none⟩ (.slice A3 o.fs.length c3)).drew) g ⟨t.s, t.As, t.cs, t.sid + 1, o.fs, A3, c3, t.rs, t.Ar, t.cr⟩) := by
        have r0 : TbOwnR x5 g ⟨t.s, t.As, t.cs, t.sid + 1, o.fs, A3, c3, t.rs, t.Ar, t.cr⟩ := ⟨(HD.out.own.r.fut (w' := x5)).cols, (HFX.out.fut (w' := x5)).more hg, (HD.out.own.r.fut (w' := x5)).rows⟩
        exact ((r0.setT HT5.out 3 (.int .i64 (t.sid + 1))).setT (HT5.out.set_ 3 (.int .i64 (t.sid + 1))) 4 (.slice A3 o.fs.length c3)).fut
      have HC2 : Hid (∀ (b o' : Nat), b ≠ T → (((x5.setCell ⟨T, 3, none⟩ (.int .i64 (t.sid + 1))).setCell ⟨T, 4, none⟩ (.slice A3 o.fs.length c3)).drew).cell? ⟨b, o', none⟩ = x5.cell? ⟨b, o', none⟩) := fun b o' hn => by
        have e0 := Below.heap_setCell x5 ⟨T, 3, none⟩ (.int .i64 (t.sid + 1)) b hn
        have e1 := Below.heap_setCell (x5.setCell ⟨T, 3, none⟩ (.int .i64 (t.sid + 1))) ⟨T, 4, none⟩ (.slice A3 o.fs.length c3) b hn
        exact World.cell?_of_block (w := x5) (e1.trans e0)
      have hpT : pb ≠ T := HPX5.out.ne_ HT5.out (by decide)
      have hDT : D ≠ T := HD.out.dT
      obtain ⟨d0, d1⟩ := At.z2 (HD.out.d.fut (w' := x5)).at0
      have ld := (HD.out.d.fut (w' := x5)).lt
      obtain ⟨t0, t1, t2, t3, t4, t5⟩ := At.z6 (HD.out.tb.fut (w' := x5)).at0
      have lt_ := (HD.out.tb.fut (w' := x5)).lt
      have ft_ := (HD.out.tb.fut (w' := x5)).free
      obtain ⟨o0, o1, o2, o3, o4, o5, o6, o7, o8, o9, o10, o11, o12, o13, o14, o15⟩ := At.zOp (HD.out.op.fut (w' := x5)).at0
      have lo := (HD.out.op.fut (w' := x5)).lt
      obtain ⟨p0, p1⟩ := At.z2 HPX5.out.at0
      have lp := HPX5.out.lt
      clear HPX5 HT5
      go_upto_region 2 with fail
      refine wp_region_held_drew (S := (fun w' => True ∧ ∀ b o, b < x5.heap.size → b ≠ T → w'.cell? ⟨b, o, none⟩ = x5.cell? ⟨b, o, none⟩)) (by kernel_rfl) (by (try dsimp only); (first | exact ⟨hS1, hS2⟩ | exact ⟨trivial, fun b o h _ => rfl⟩)) (fun hHeld => ?_)
      refine wT 0 32 (by assumption) ?_
      refine wT 4 36 (by assumption) ?_
      refine wT 1 33 (by assumption) ?_
      refine wT 2 34 (by assumption) ?_
      refine wT 3 35 (by assumption) ?_
      refine wT 5 37 (by assumption) ?_
      refine wT 6 38 (by assumption) ?_
      refine wpAnyH_ready (rs := [7]) (by kernel_rfl) (by simp) ?_
      refine AllReadyH.cons (o := ⟨none, _, _, _, _, _⟩) rfl (fun K hK => ?_) AllReadyH.nil
      go_simp
      refine hK.out _ _ (by (try dsimp only); (with_reducible exact ⟨trivial, fun b o h h1 => HC2.out b o h1⟩)) (fun hHeld => ?_)
      clear hK K
      (try simp only [Act.put, List.setIfInBounds_toArray, List.set_cons_zero, List.set_cons_succ])
      refine wpAnyH_done (by kernel_rfl) ?_ _
      clear p0 p1 lp HC2 d0 d1 ld t0 t1 t2 t3 t4 t5 lt_ ft_ o0 o1 o2 o3 o4 o5 o6 o7 o8 o9 o10 o11 o12 o13 o14 o15 lo
      go_wp2_with fail
      go_end0
      rw [HE.out]
      exact ⟨((Mt.step hg (fut w x5)).trans ((Mt.cell x5 HD.out.gT 3 _).trans (Mt.cell _ HD.out.gT 4 _))).drew, rfl, ⟨t.s, t.As, t.cs, t.sid + 1, o.fs, A3, c3, t.rs, t.Ar, t.cr⟩, rfl, HTF.out, HOF.out⟩
  · go_simp
    first | (have HPB := hide (Blk.new w3 [.int .i64 0, .slice none 0 0] 27)) | (have HPB := hide (Blk.new w [.int .i64 0, .slice none 0 0] 27))
    obtain ⟨p0, p1⟩ := At.z2 HPB.out.at0
    have lp := HPB.out.lt
    have fp := HPB.out.free
    refine hK.out _ _ (by (try dsimp only); (first | exact ⟨hS1, hS2⟩ | exact ⟨Step.of, (bcell (fut _ _)).1⟩)) (fun hHeld => ?_)
    clear hK K
    (try simp only [Act.put, List.setIfInBounds_toArray, List.set_cons_zero, List.set_cons_succ])
    refine wpAnyH_ready (rs := [16]) (by kernel_rfl) (by simp) ?_
    refine AllReadyH.cons (o := ⟨some 19, _, _, _, _, _⟩) rfl (fun K hK => ?_) AllReadyH.nil
    obtain ⟨hS1, hS2⟩ := hHeld
    go_simp
    (go_at_call 85; (with_reducible refine (CL.out _ inferInstance).mono ?_); rintro e w3 ⟨A3, c3, rfl, ho3, hs3⟩; have HO3 := hide ho3; clear ho3; try (have hp3 := HPB.out.fut (w' := w3); obtain ⟨p0, p1⟩ := At.z2 hp3.at0; have lp := hp3.lt; have fp := hp3.free; clear hp3))
    refine hK.out _ _ (by (try dsimp only); (first | exact ⟨hS1, hS2⟩ | exact ⟨Step.of, (bcell (fut _ _)).1⟩)) (fun hHeld => ?_)
    clear hK K
    (try simp only [Act.put, List.setIfInBounds_toArray, List.set_cons_zero, List.set_cons_succ])
    refine wT 17 20 (by assumption) ?_
    refine wpAnyH_ready (rs := [19]) (by kernel_rfl) (by simp) ?_
    refine AllReadyH.cons (o := ⟨none, _, _, _, _, _⟩) rfl (fun K hK => ?_) AllReadyH.nil
    go_simp
    refine hK.out _ _ (by (try dsimp only); (constructor; exact Step.of; intro b o h; exact (fut w _).cell (p := ⟨b, o, none⟩) h)) (fun hHeld => ?_)
    clear hK K
    (try simp only [Act.put, List.setIfInBounds_toArray, List.set_cons_zero, List.set_cons_succ])
    refine wpAnyH_done (by kernel_rfl) ?_ _
    obtain ⟨x1, hx1⟩ : ∃ x : World, x = (w3.setCell ⟨w.heap.size, 0, none⟩ (.int .i64 (t.sid + 1))).setCell ⟨w.heap.size, 1, none⟩ (.slice A3 o.fs.length c3) := ⟨_, rfl⟩
    obtain ⟨pb, hpb⟩ : ∃ pb : Nat, pb = w.heap.size := ⟨_, rfl⟩
    have hb3 := HPB.out.fut (w' := w3)
    have HPX : Hid (Blk x1 pb 27 [.int .i64 (t.sid + 1), .slice A3 o.fs.length c3]) := by rw [hx1, hpb]; exact (hb3.set_ 0 (.int .i64 (t.sid + 1))).set_ 1 (.slice A3 o.fs.length c3)
    have SX1 : Step w x1 := by rw [hx1]; exact ⟨((fut w w3).setCell (p := ⟨w.heap.size, 0, none⟩) (Nat.le_refl _) _).setCell (p := ⟨w.heap.size, 1, none⟩) (Nat.le_refl _) _⟩
    have HFX : Hid (Own x1 w.heap.size 92 3 (.slice A3 o.fs.length c3) (o.fs.map Fld.cells)) := by rw [hx1]; exact (HO3.out.set_other hb3 (by decide) 0 _).set_other (hb3.set_ 0 _) (by decide) 1 _
    clear hb3
    rw [← hx1, ← hpb]
    clear hx1 hpb HPB HO3 p0 p1 lp fp d0 d1 ld t0 t1 t2 t3 t4 t5 lt_ ft_ o0 o1 o2 o3 o4 o5 o6 o7 o8 o9 o10 o11 o12 o13 o14 o15 lo
    have HFS : Hid (FsIn x1 o.fs A3 c3) := by
      obtain ⟨A2, c2, e2, k1, k2, k3, _⟩ := HFX.out.slice (flds_fit o.fs).len (by simp : (o.fs.map Fld.cells).length = o.fs.length)
      injection e2 with b1 b2 b3
      exact ⟨by rw [b3]; exact k1, by rw [b3]; simpa [maxLen] using k2, by omega, by rw [b1]; exact k3⟩
    have hwx : Fut w x1 := inferInstance
    have SM := fun (w' : World) (hq : Fut x1 w') => haveI : Fut w w' := Fut.tr hwx hq; pspec_any (w0 := x1) (w1 := w) (t.sid + 1) o.fs A3 c3 t.s t.As t.cs w' HFS.out HSC.out
    clear hwx
    unfold Sch.val at SM
    obtain ⟨d0, d1⟩ := At.z2 (HD.out.d.fut (w' := x1)).at0
    have ld := (HD.out.d.fut (w' := x1)).lt
    obtain ⟨t0, t1, t2, t3, t4, t5⟩ := At.z6 (HD.out.tb.fut (w' := x1)).at0
    have lt_ := (HD.out.tb.fut (w' := x1)).lt
    have ft_ := (HD.out.tb.fut (w' := x1)).free
    obtain ⟨o0, o1, o2, o3, o4, o5, o6, o7, o8, o9, o10, o11, o12, o13, o14, o15⟩ := At.zOp (HD.out.op.fut (w' := x1)).at0
    have lo := (HD.out.op.fut (w' := x1)).lt
    obtain ⟨p0, p1⟩ := At.z2 HPX.out.at0
    have lp := HPX.out.lt
    cases hb : specB (t.sid + 1) o.fs t.s with
    | false =>
      have HE : Hid (R = .error 5) := by show _ = _; rw [← HR.out, if_pos hb]
      rw [hb] at SM
      have SM := hide SM
      clear hb
      go_upto_region 1 with fail
      refine wp_region_held_drew (S := (fun w' => Step x1 w' ∧ (∀ b o, b < x1.heap.size → w'.cell? ⟨b, o, none⟩ = x1.cell? ⟨b, o, none⟩))) (by kernel_rfl) (by (try dsimp only); (first | exact ⟨hS1, hS2⟩ | exact ⟨Step.of, (bcell (fut _ _)).1⟩)) (fun hHeld => ?_)
      refine wT 0 21 (by assumption) ?_
      refine wT 1 22 (by assumption) ?_
      refine wT 2 23 (by assumption) ?_
      refine wT 3 24 (by assumption) ?_
      refine wT 4 25 (by assumption) ?_
      refine wT 5 26 (by assumption) ?_
      refine wT 6 27 (by assumption) ?_
      refine wT 7 28 (by assumption) ?_
      refine wpAnyH_ready (rs := [8]) (by kernel_rfl) (by simp) ?_
      refine AllReadyH.cons (o := ⟨some 29, _, _, _, _, _⟩) rfl (fun K hK => ?_) AllReadyH.nil
      obtain ⟨hS1, hS2⟩ := hHeld
      go_simp
      (go_at_call 55; (with_reducible refine (SM.out _ inferInstance).mono ?_); rintro e w5 ⟨rfl, hs5⟩)
      refine hK.out _ _ (by (try dsimp only); (first | exact ⟨hS1, hS2⟩ | exact ⟨Step.of, (bcell (fut _ _)).1⟩)) (fun hHeld => ?_)
      clear hK K
      (try simp only [Act.put, List.setIfInBounds_toArray, List.set_cons_zero, List.set_cons_succ])
      refine wT 9 30 (by assumption) ?_
      refine wpAnyH_ready (rs := [10]) (by kernel_rfl) (by simp) ?_
      refine AllReadyH.cons (o := ⟨some 31, _, _, _, _, _⟩) rfl (fun K hK => ?_) AllReadyH.nil
      obtain ⟨hS1, hS2⟩ := hHeld
      go_simp
      (go_at_call 122; (with_reducible refine (throw_yes _ _).mono ?_); rintro e w9 ⟨rfl, h9⟩; obtain rfl := h9.symm)
      exact ⟨rfl, by rw [HE.out]; exact ⟨Mt.step hg (fut w w5), rfl⟩⟩
    | true =>
      have HE : Hid (R = .ok ⟨t.s, t.sid + 1, o.fs, t.rs.map RowA.vs⟩) := by show _ = _; rw [← HR.out, if_neg (by rw [hb]; simp)]
      rw [hb] at SM
      have SM := hide SM
      clear hb
      go_upto_region 1 with fail
      refine wp_region_held_drew (S := (fun w' => Step x1 w' ∧ (∀ b o, b < x1.heap.size → w'.cell? ⟨b, o, none⟩ = x1.cell? ⟨b, o, none⟩))) (by kernel_rfl) (by (try dsimp only); (first | exact ⟨hS1, hS2⟩ | exact ⟨Step.of, (bcell (fut _ _)).1⟩)) (fun hHeld => ?_)
      refine wT 0 21 (by assumption) ?_
      refine wT 1 22 (by assumption) ?_
      refine wT 2 23 (by assumption) ?_
      refine wT 3 24 (by assumption) ?_
      refine wT 4 25 (by assumption) ?_
      refine wT 5 26 (by assumption) ?_
      refine wT 6 27 (by assumption) ?_
      refine wT 7 28 (by assumption) ?_
      refine wpAnyH_ready (rs := [8]) (by kernel_rfl) (by simp) ?_
      refine AllReadyH.cons (o := ⟨some 29, _, _, _, _, _⟩) rfl (fun K hK => ?_) AllReadyH.nil
      obtain ⟨hS1, hS2⟩ := hHeld
      go_simp
      (go_at_call 55; (with_reducible refine (SM.out _ inferInstance).mono ?_); rintro e w5 ⟨rfl, hs5⟩)
      refine hK.out _ _ (by (try dsimp only); (first | exact ⟨hS1, hS2⟩ | exact ⟨Step.of, (bcell (fut _ _)).1⟩)) (fun hHeld => ?_)
      clear hK K
      (try simp only [Act.put, List.setIfInBounds_toArray, List.set_cons_zero, List.set_cons_succ])
      refine wT 9 30 (by assumption) ?_
      refine wpAnyH_ready (rs := [10]) (by kernel_rfl) (by simp) ?_
      refine AllReadyH.cons (o := ⟨some 31, _, _, _, _, _⟩) rfl (fun K hK => ?_) AllReadyH.nil
      obtain ⟨hS1, hS2⟩ := hHeld
      go_simp
      (go_at_call 122; (with_reducible refine (throw_no _ _).mono ?_); rintro e w9 ⟨rfl, h9⟩; obtain rfl := h9.symm)
      refine hK.out _ _ (by (try dsimp only); (first | exact ⟨hS1, hS2⟩ | exact ⟨Step.of, (bcell (fut _ _)).1⟩)) (fun hHeld => ?_)
      clear hK K
      (try simp only [Act.put, List.setIfInBounds_toArray, List.set_cons_zero, List.set_cons_succ])
      refine wpAnyH_done (by kernel_rfl) ?_ _
      clear p0 p1 lp; clear d0 d1 ld t0 t1 t2 t3 t4 t5 lt_ ft_ o0 o1 o2 o3 o4 o5 o6 o7 o8 o9 o10 o11 o12 o13 o14 o15 lo
      obtain ⟨x5, hx5⟩ : ∃ x : World, x = w5 := ⟨_, rfl⟩
      rw [← hx5] at hs5 ⊢
      clear hx5
      have HPX5 := hide (HPX.out.fut (w' := x5))
      have HT5 := hide (HD.out.tb.fut (w' := x5))
      have HTF : Hid (Blk (((x5.setCell ⟨T, 3, none⟩ (.int .i64 (t.sid + 1))).setCell ⟨T, 4, none⟩ (.slice A3 o.fs.length c3)).drew) T 30 [.int .i64 t.s.id, .slice t.As t.s.cols.length t.cs, .int .i64 t.s.next, .int .i64 (t.sid + 1), .slice A3 o.fs.length c3, .slice t.Ar t.rs.length t.cr]) := (HT5.out.set_ 3 (.int .i64 (t.sid + 1))).set_ 4 (.slice A3 o.fs.length c3)
      have HOF : Hid (TbOwnR (((x5.setCell ⟨T, 3, none⟩ (.int .i64 (t.sid + 1))).setCell ⟨T, 4, none⟩ (.slice A3 o.fs.length c3)).drew) g ⟨t.s, t.As, t.cs, t.sid + 1, o.fs, A3, c3, t.rs, t.Ar, t.cr⟩) := by
        have r0 : TbOwnR x5 g ⟨t.s, t.As, t.cs, t.sid + 1, o.fs, A3, c3, t.rs, t.Ar, t.cr⟩ := ⟨(HD.out.own.r.fut (w' := x5)).cols, (HFX.out.fut (w' := x5)).more hg, (HD.out.own.r.fut (w' := x5)).rows⟩
        exact ((r0.setT HT5.out 3 (.int .i64 (t.sid + 1))).setT (HT5.out.set_ 3 (.int .i64 (t.sid + 1))) 4 (.slice A3 o.fs.length c3)).fut
      have HC2 : Hid (∀ (b o' : Nat), b ≠ T → (((x5.setCell ⟨T, 3, none⟩ (.int .i64 (t.sid + 1))).setCell ⟨T, 4, none⟩ (.slice A3 o.fs.length c3)).drew).cell? ⟨b, o', none⟩ = x5.cell? ⟨b, o', none⟩) := fun b o' hn => by
        have e0 := Below.heap_setCell x5 ⟨T, 3, none⟩ (.int .i64 (t.sid + 1)) b hn
        have e1 := Below.heap_setCell (x5.setCell ⟨T, 3, none⟩ (.int .i64 (t.sid + 1))) ⟨T, 4, none⟩ (.slice A3 o.fs.length c3) b hn
        exact World.cell?_of_block (w := x5) (e1.trans e0)
      have hpT : pb ≠ T := HPX5.out.ne_ HT5.out (by decide)
      have hDT : D ≠ T := HD.out.dT
      obtain ⟨d0, d1⟩ := At.z2 (HD.out.d.fut (w' := x5)).at0
      have ld := (HD.out.d.fut (w' := x5)).lt
      obtain ⟨t0, t1, t2, t3, t4, t5⟩ := At.z6 (HD.out.tb.fut (w' := x5)).at0
      have lt_ := (HD.out.tb.fut (w' := x5)).lt
      have ft_ := (HD.out.tb.fut (w' := x5)).free
      obtain ⟨o0, o1, o2, o3, o4, o5, o6, o7, o8, o9, o10, o11, o12, o13, o14, o15⟩ := At.zOp (HD.out.op.fut (w' := x5)).at0
      have lo := (HD.out.op.fut (w' := x5)).lt
      obtain ⟨p0, p1⟩ := At.z2 HPX5.out.at0
      have lp := HPX5.out.lt
      clear HPX5 HT5
      go_upto_region 2 with fail
      refine wp_region_held_drew (S := (fun w' => True ∧ ∀ b o, b < x5.heap.size → b ≠ T → w'.cell? ⟨b, o, none⟩ = x5.cell? ⟨b, o, none⟩)) (by kernel_rfl) (by (try dsimp only); (first | exact ⟨hS1, hS2⟩ | exact ⟨trivial, fun b o h _ => rfl⟩)) (fun hHeld => ?_)
      refine wT 0 32 (by assumption) ?_
      refine wT 4 36 (by assumption) ?_
      refine wT 1 33 (by assumption) ?_
      refine wT 2 34 (by assumption) ?_
      refine wT 3 35 (by assumption) ?_
      refine wT 5 37 (by assumption) ?_
      refine wT 6 38 (by assumption) ?_
      refine wpAnyH_ready (rs := [7]) (by kernel_rfl) (by simp) ?_
      refine AllReadyH.cons (o := ⟨none, _, _, _, _, _⟩) rfl (fun K hK => ?_) AllReadyH.nil
      go_simp
      refine hK.out _ _ (by (try dsimp only); (with_reducible exact ⟨trivial, fun b o h h1 => HC2.out b o h1⟩)) (fun hHeld => ?_)
      clear hK K
      (try simp only [Act.put, List.setIfInBounds_toArray, List.set_cons_zero, List.set_cons_succ])
      refine wpAnyH_done (by kernel_rfl) ?_ _
      clear p0 p1 lp HC2 d0 d1 ld t0 t1 t2 t3 t4 t5 lt_ ft_ o0 o1 o2 o3 o4 o5 o6 o7 o8 o9 o10 o11 o12 o13 o14 o15 lo
      go_wp2_with fail
      go_end0
      rw [HE.out]
      exact ⟨((Mt.step hg (fut w x5)).trans ((Mt.cell x5 HD.out.gT 3 _).trans (Mt.cell _ HD.out.gT 4 _))).drew, rfl, ⟨t.s, t.As, t.cs, t.sid + 1, o.fs, A3, c3, t.rs, t.Ar, t.cr⟩, rfl, HTF.out, HOF.out⟩
set_option maxRecDepth 100000 in
set_option maxHeartbeats 4000000 in
theorem run_part {w1 : World} (g D T O : Nat) (t : TbA) (o : OpA) (w : World) (h : Doer w g D T O t o) (ho : OpIn w1 o) [f1 : Fut w1 w] (hf : TbFine t) (hg : g ≤ w.heap.size) (hs0 : 0 ≤ t.sid) (hs1 : t.sid ≤ 2147483647) (hk : o.kind = 7) :
    Calls Tryz.prog 44 #[.pointer (some ⟨D, 0, none⟩)] w fun e w' => RunR g T w (partP25 t.tb o.op) e w' := by
  have CC := part_any g D T O t o w h ho hf hg hs0 hs1
  have HD := hide h
  obtain ⟨d0, d1⟩ := At.z2 (HD.out.d.fut (w' := w)).at0
  have ld := (HD.out.d.fut (w' := w)).lt
  obtain ⟨t0, t1, t2, t3, t4, t5⟩ := At.z6 (HD.out.tb.fut (w' := w)).at0
  have lt_ := (HD.out.tb.fut (w' := w)).lt
  have ft_ := (HD.out.tb.fut (w' := w)).free
  obtain ⟨o0, o1, o2, o3, o4, o5, o6, o7, o8, o9, o10, o11, o12, o13, o14, o15⟩ := At.zOp (HD.out.op.fut (w' := w)).at0
  have lo := (HD.out.op.fut (w' := w)).lt
  unfold TbA.cells at *
  rw [hk] at o0
  clear hk
  cases hR : partP25 t.tb o.op with
  | error c =>
    rw [hR] at CC
    have CC := hide CC
    clear hR
    go_enter Tryz.func44, Tryz.ntmps44
    go_wp2_with (go_at_call 94; (with_reducible refine CC.out.mono ?_); rintro e w3 ⟨hmt, rfl⟩; have HMT := hide hmt; clear hmt)
    exact ⟨rfl, HMT.out, rfl⟩
  | ok u =>
    rw [hR] at CC
    have CC := hide CC
    clear hR
    go_enter Tryz.func44, Tryz.ntmps44
    go_wp2_with (go_at_call 94; (with_reducible refine CC.out.mono ?_); rintro e w3 ⟨hmt, rfl, t2, ht2, hb2, ho2⟩; have HMT := hide hmt; have HT2 := hide ht2; have HB2 := hide hb2; have HO2 := hide ho2; clear hmt ht2 hb2 ho2)
    go_end0
    exact ⟨HMT.out, rfl, t2, HT2.out, HB2.out, HO2.out⟩
end Go.Proofs.YtnphokhehacfnaaGreatDoor

namespace Go.Proofs.YtnphokhehacfnaaGreatDoor
open Go.RowKit

theorem run_any25 {w1 : World} (g D T O : Nat) (t : TbA) (o : OpA) (w : World) (h : Doer w g D T O t o) (ho : OpIn w1 o) [f1 : Fut w1 w] (hm : tabB t.tb = true) (hf : TbFine t) (hg : g ≤ w.heap.size) (h0 : ¬ o.kind < 0) (h8 : ¬ 8 < o.kind) :
    Calls Tryz.prog 44 #[.pointer (some ⟨D, 0, none⟩)] w fun e w' => RunR g T w (runP t.tb o.op) e w' := by
  obtain ⟨hrow, hn1, hn12, hn4, hs0, hs1⟩ := tb_rows hm
  have hc : o.kind = 0 ∨ o.kind = 1 ∨ o.kind = 2 ∨ o.kind = 3 ∨ o.kind = 4 ∨ o.kind = 5 ∨ o.kind = 6 ∨ o.kind = 7 ∨ o.kind = 8 := by omega
  have e : runP t.tb o.op = if o.kind = 0 then growP t.tb o.op else if o.kind = 1 ∨ o.kind = 2 then takeP t.tb o.op else if o.kind = 3 then updateP t.tb o.op else if o.kind = 4 then addcP t.tb o.op else if o.kind = 5 then dropP t.tb o.op else if o.kind = 6 then shapeP t.tb (renameR t.s o.col o.name) else if o.kind = 7 then partP25 t.tb o.op else .ok t.tb := rfl
  rw [e]
  rcases hc with hk | hk | hk | hk | hk | hk | hk | hk | hk
  · rw [if_pos hk]
    exact run_add g D T O t o w h ho hf hg hn12 hn4 hk
  · rw [if_neg (by omega), if_pos (by omega)]
    exact run_del g D T O t o w h ho hf hg hk
  · rw [if_neg (by omega), if_pos (by omega)]
    exact run_mark g D T O t o w h ho hf hg hk
  · rw [if_neg (by omega), if_neg (by omega), if_pos hk]
    exact run_upd g D T O t o w h ho hf hg hn12 hn4 hrow hk
  · rw [if_neg (by omega), if_neg (by omega), if_neg (by omega), if_pos hk]
    exact run_addc g D T O t o w h ho hf hg hn1 hn12 hn4 hrow hk
  · rw [if_neg (by omega), if_neg (by omega), if_neg (by omega), if_neg (by omega), if_pos hk]
    exact run_drop g D T O t o w h ho hf hg hn12 hn4 hrow hk
  · rw [if_neg (by omega), if_neg (by omega), if_neg (by omega), if_neg (by omega), if_neg (by omega), if_pos hk]
    exact run_ren g D T O t o w h ho hf hg hk
  · rw [if_neg (by omega), if_neg (by omega), if_neg (by omega), if_neg (by omega), if_neg (by omega), if_neg (by omega), if_pos hk]
    exact run_part g D T O t o w h ho hf hg hs0 hs1 hk
  · rw [if_neg (by omega), if_neg (by omega), if_neg (by omega), if_neg (by omega), if_neg (by omega), if_neg (by omega), if_neg (by omega)]
    exact run_comp g D T O t o w h ho hf hg hk
theorem shape_err {t : Tb} {r : Sch × Int} {c : Int} (h : shapeP t r = .error c) : c = 5 := by
  unfold shapeP at h
  split at h
  · injection h with h; omega
  · cases h
theorem run_err {t : Tb} {o : Opp} {c : Int} (h : runP t o = .error c) : c ≠ 0 := by
  unfold runP at h
  split at h
  · exact grow_err h
  split at h
  · exact take_err h
  split at h
  · exact upd_err h
  split at h
  · rw [addcP_eq] at h
    split at h
    · injection h with h; omega
    · cases h
  split at h
  · unfold dropP at h
    split at h
    · injection h with h; omega
    · split at h
      · injection h with h; omega
      · split at h
        · rename_i hq
          injection h with h
          have := shape_err hq
          omega
        · cases h
  split at h
  · have := shape_err h
    omega
  split at h
  · unfold partP25 at h
    split at h
    · injection h with h; omega
    · cases h
  · cases h
/-- Apply of any operation on any table. -/
theorem apply_any25 {w0 w1 : World} (t : TbA) (o : OpA) (w : World) (hin : TbIn w0 t) (ho : OpIn w1 o) [f0 : Fut w0 w] [f1 : Fut w1 w] :
    Calls Tryz.prog 13 #[t.val, .agg #[.int .i64 o.kind, .string o.txn, .slice o.Ac o.cols.length o.cc, .slice o.Ar o.rows.length o.cr, .slice o.An o.ns.length o.cn, .string o.col, .string o.name, .int .i64 o.ck, .int .i64 o.v.kind, .int .i64 o.v.i, .bool o.v.b, .string o.v.s, .slice o.Af o.fs.length o.cf, .int .i64 o.ver, .int .i64 o.time, .int .i64 o.agg]] w (ApplyR w (applyP t.tb o.op)) := by
  by_cases hk : o.kind < 0 ∨ 8 < o.kind
  · rw [applyP_form (.inr hk)]
    exact apply_form t o w hin (.inr hk)
  · refine apply_by t o w hin (by omega) (by omega) (fun c hc => run_err hc) fun hm g D T O t' w' hq hd he hg => ?_
    haveI := Fut.tr f1 hq
    rw [← he] at hm ⊢
    exact run_any25 g D T O t' o w' hd ho hm (hin.fine.of_tb he) hg (by omega) (by omega)
end Go.Proofs.YtnphokhehacfnaaGreatDoor

namespace Go.Proofs.YtnphokhehacfnaaGreatDoor
open Go.RowKit

theorem find_at {α : Type} (p : α → Bool) : ∀ l : List α, l[l.findIdx p]? = l.find? p
  | [] => rfl
  | x :: l => by
    rw [List.findIdx_cons, List.find?_cons]
    cases h : p x with
    | true => rfl
    | false => exact find_at p l
theorem idx_find {α : Type} {p : α → Bool} {l : List α} : 0 ≤ idx p l ↔ (l.find? p).isSome = true := by
  rw [← find_at]
  unfold idx
  split
  · rename_i h
    rw [List.getElem?_eq_getElem h]
    exact ⟨fun _ => rfl, fun _ => by omega⟩
  · rename_i h
    rw [List.getElem?_eq_none (by omega)]
    exact ⟨fun h1 => by omega, fun h1 => by cases h1⟩
theorem fldB_eq (s : Sch) (fs : List Fld) (k : Nat) (f : Fld) : fldB s fs k f = match s.cols.find? (colId f.source) with
    | none => false
    | some c => paramB f && (!(f.trans == 2 && c.kind == 2) && !(fs.take k).any (sameF f)) := by
  unfold fldB
  rw [List.getD_eq_getElem?_getD, find_at]
  cases h : s.cols.find? (colId f.source) with
  | none =>
    rw [decide_eq_false (by rw [idx_find, h]; simp)]
    rfl
  | some c =>
    rw [decide_eq_true (by rw [idx_find, h]; rfl)]
    rfl
/-- A spec may be still where its columns are found with their kinds. -/
theorem spec_keep {s s' : Sch} {id : Int} {fs : List Fld} (h : specB id fs s = true) (hm : mayB s' = true) (hk : ∀ f ∈ fs, ∀ c, s.cols.find? (colId f.source) = some c → ∃ c', s'.cols.find? (colId f.source) = some c' ∧ c'.kind = c.kind) : specB id fs s' = true := by
  unfold specB at h ⊢
  rw [Bool.and_eq_true, Bool.and_eq_true, Bool.and_eq_true, Bool.and_eq_true] at h ⊢
  obtain ⟨_, h1, h2, h3, h4⟩ := h
  refine ⟨hm, h1, h2, h3, ?_⟩
  rw [fldsUpto_iff] at h4 ⊢
  intro i hi f hf
  have := h4 i hi f hf
  rw [fldB_eq] at this ⊢
  cases hc : s.cols.find? (colId f.source) with
  | none => rw [hc] at this; cases this
  | some c =>
    rw [hc] at this
    obtain ⟨c', hc', e⟩ := hk f (List.mem_of_getElem? hf) c hc
    rw [hc']
    show (paramB f && (!(f.trans == 2 && c'.kind == 2) && _)) = true
    rw [e]
    exact this
theorem rowW_iff {cols : List Col} {vs : List Val} : rowW cols vs = true ↔ vs.length = cols.length ∧ ∀ (i : Nat) (c : Col) (v : Val), cols[i]? = some c → vs[i]? = some v → wholeB c.kind v = true := by
  unfold rowW
  rw [Bool.and_eq_true, beq_iff_eq, wholeUpto_iff]
  constructor
  · rintro ⟨h1, h2⟩
    exact ⟨h1, fun i c v hc hv => h2 i (List.getElem?_eq_some_iff.1 hc).1 c v hc hv⟩
  · rintro ⟨h1, h2⟩
    exact ⟨h1, fun i _ c v hc hv => h2 i c v hc hv⟩
theorem zero_whole (k : Int) : wholeB k Val.zero = true := by
  unfold wholeB
  rw [show clean Val.zero = Val.zero from rfl, sameV_iff.2 rfl]
  rfl
theorem all_rowsM {vss : List (List Val)} {p q : List Val → Bool} {f : List Val → List Val} (h : vss.all p = true) (hf : ∀ vs, p vs = true → q (f vs) = true) : (vss.map f).all q = true := by
  rw [List.all_eq_true] at h ⊢
  intro x hx
  obtain ⟨y, hy, rfl⟩ := List.mem_map.1 hx
  exact hf y (h y hy)
/-- Behind an added column. -/
theorem addc_may {t u : Tb} {o : Opp} (ht : tabB t = true) (h : addcP t o = .ok u) : tabB u = true ∧ u.rows.length = t.rows.length := by
  obtain ⟨hm, hs, hl, hr⟩ := tabB_iff.1 ht
  rw [addcP_eq] at h
  split at h
  · cases h
  · rename_i h0
    injection h with h
    subst h
    have h0 : (addR t.s o.name o.ck).2 = 0 := by omega
    obtain ⟨hc, hm'⟩ := addR_iv (t := (addR t.s o.name o.ck).1) (show addR t.s o.name o.ck = (_, 0) by rw [← h0])
    refine ⟨tabB_iff.2 ⟨hm', spec_keep hs hm' fun f _ c hfc => ⟨c, ?_, rfl⟩, by simpa using hl, all_rowsM hr fun vs hvs => ?_⟩, by simp⟩
    · rw [hc, List.find?_append, hfc]
      rfl
    · obtain ⟨h1, h2⟩ := rowW_iff.1 hvs
      refine rowW_iff.2 ⟨by rw [hc]; simp [h1], fun i c v hci hvi => ?_⟩
      rw [hc] at hci
      by_cases hi : i < vs.length
      · rw [List.getElem?_append_left (by omega)] at hci hvi
        exact h2 i c v hci hvi
      · rw [List.getElem?_append_right (by omega)] at hvi
        have hv : v ∈ [Val.zero] := List.mem_of_getElem? hvi
        simp at hv
        subst hv
        exact zero_whole _
theorem find_setName {q : Col → Bool} (hq : ∀ (c : Col) (n : ByteArray), q { c with name := n } = q c) (nw : ByteArray) {c : Col} : ∀ (l : List Col) (k : Nat), l.find? q = some c → ∃ c', (setName l k nw).find? q = some c' ∧ c'.kind = c.kind
  | [], _, h => by simp at h
  | x :: r, 0, h => by
    show ∃ c', (({ x with name := nw } : Col) :: r).find? q = some c' ∧ _
    rw [List.find?_cons] at h ⊢
    rw [hq]
    cases hp : q x with
    | true =>
      rw [hp] at h
      injection h with h
      subst h
      exact ⟨_, rfl, rfl⟩
    | false =>
      rw [hp] at h
      exact ⟨c, h, rfl⟩
  | x :: r, k + 1, h => by
    show ∃ c', (x :: setName r k nw).find? q = some c' ∧ _
    rw [List.find?_cons] at h ⊢
    cases hp : q x with
    | true =>
      rw [hp] at h
      exact ⟨c, h, rfl⟩
    | false =>
      rw [hp] at h
      exact find_setName hq nw r k h
theorem ren_may {t u : Tb} {o : Opp} (ht : tabB t = true) (h : shapeP t (renameR t.s o.col o.name) = .ok u) : tabB u = true ∧ u.rows.length = t.rows.length := by
  obtain ⟨hm, hs, hl, hr⟩ := tabB_iff.1 ht
  unfold shapeP at h
  split at h
  · cases h
  · rename_i h0
    injection h with h
    subst h
    have h0 : (renameR t.s o.col o.name).2 = 0 := by omega
    obtain ⟨hc, hm'⟩ := renameR_iv (t := (renameR t.s o.col o.name).1) (show renameR t.s o.col o.name = (_, 0) by rw [← h0])
    have kd : ∀ (i : Nat) (c' : Col), (renameR t.s o.col o.name).1.cols[i]? = some c' → ∃ c, t.s.cols[i]? = some c ∧ c'.kind = c.kind ∧ c'.id = c.id := by
      intro i c' h
      rw [hc, setName, List.getElem?_modify] at h
      cases hci : t.s.cols[i]? with
      | none => rw [hci] at h; cases h
      | some c =>
        rw [hci] at h
        refine ⟨c, rfl, ?_⟩
        have h : (if t.s.cols.findIdx (named o.col) = i then { c with name := o.name } else c) = c' := Option.some.inj h
        subst h
        split <;> exact ⟨rfl, rfl⟩
    refine ⟨tabB_iff.2 ⟨hm', spec_keep hs hm' fun f _ c hfc => ?_, hl, ?_⟩, rfl⟩
    · rw [hc]
      exact find_setName (fun c n => rfl) o.name _ _ hfc
    · show t.rows.all _ = true
      rw [List.all_eq_true] at hr ⊢
      intro vs hvs
      obtain ⟨h1, h2⟩ := rowW_iff.1 (hr vs hvs)
      refine rowW_iff.2 ⟨by rw [h1, hc, setName, List.length_modify], fun i c v hci hvi => ?_⟩
      obtain ⟨c0, hc0, e, _⟩ := kd i c hci
      rw [e]
      exact h2 i c0 v hc0 hvi
theorem find_erase {α : Type} {p : α → Bool} {x : α} : ∀ (l : List α) (k : Nat), l.find? p = some x → (∀ y, l[k]? = some y → p y = false) → (l.eraseIdx k).find? p = some x
  | [], _, h, _ => by simp at h
  | a :: r, 0, h, hk => by
    rw [List.find?_cons, hk a rfl] at h
    exact h
  | a :: r, k + 1, h, hk => by
    show (a :: r.eraseIdx k).find? p = _
    rw [List.find?_cons] at h ⊢
    cases hp : p a with
    | true => rw [hp] at h; exact h
    | false => rw [hp] at h; exact find_erase r k h fun y hy => hk y hy
theorem drop_may {t u : Tb} {o : Opp} (ht : tabB t = true) (h : dropP t o = .ok u) : tabB u = true ∧ u.rows.length = t.rows.length := by
  obtain ⟨hm, hs, hl, hr⟩ := tabB_iff.1 ht
  by_cases hi : idx (named o.col) t.s.cols < 0
  · rw [dropP, if_pos hi] at h; cases h
  · obtain ⟨y1, hxl⟩ := idx_yes (p := named o.col) (l := t.s.cols) (by omega)
    obtain ⟨c, hc⟩ : ∃ c, t.s.cols[t.s.cols.findIdx (named o.col)]? = some c := ⟨_, List.getElem?_eq_getElem hxl⟩
    rw [dropP_go hi rfl hc] at h
    split at h
    · cases h
    · rename_i ha
      split at h
      · cases h
      · rename_i h0
        injection h with h
        subst h
        have h0 : (dropR t.s o.col).2 = 0 := by omega
        have hd : (dropR t.s o.col).1.cols = t.s.cols.eraseIdx (t.s.cols.findIdx (named o.col)) ∧ mayB (dropR t.s o.col).1 = true := by
          by_cases h1 : t.s.cols.length = 1
          · rw [dropR_one hm hi h1] at h0; exact absurd h0 (by decide)
          · rw [dropR_next hm hi h1] at h0 ⊢
            obtain ⟨e, hm'⟩ := nextR_iv (t := (nextR ⟨t.s.id + 1, t.s.cols.eraseIdx (t.s.cols.findIdx (named o.col)), t.s.next⟩).1) (show nextR _ = (_, 0) by rw [← h0])
            exact ⟨by rw [← e], hm'⟩
        refine ⟨tabB_iff.2 ⟨hd.2, spec_keep hs hd.2 fun f hf c' hfc => ⟨c', ?_, rfl⟩, by simpa using hl, all_rowsM hr fun vs hvs => ?_⟩, by simp⟩
        · rw [hd.1]
          refine find_erase _ _ hfc fun y hy => ?_
          rw [hc] at hy
          injection hy with hy
          subst hy
          cases hq : colId f.source c with
          | false => rfl
          | true =>
            exfalso
            apply ha
            rw [List.any_eq_true]
            refine ⟨f, hf, ?_⟩
            unfold colId at hq
            rw [beq_iff_eq] at hq ⊢
            omega
        · obtain ⟨h1, h2⟩ := rowW_iff.1 hvs
          refine rowW_iff.2 ⟨by rw [hd.1, List.length_eraseIdx, List.length_eraseIdx, h1], fun i c' v hci hvi => ?_⟩
          rw [hd.1, List.getElem?_eraseIdx] at hci
          rw [List.getElem?_eraseIdx] at hvi
          split at hci
          · rename_i hq
            rw [if_pos hq] at hvi
            exact h2 i c' v hci hvi
          · rename_i hq
            rw [if_neg hq] at hvi
            exact h2 (i + 1) c' v hci hvi
theorem part_may {t u : Tb} {o : Opp} (ht : tabB t = true) (h : partP25 t o = .ok u) : tabB u = true ∧ u.rows.length = t.rows.length := by
  obtain ⟨hm, hs, hl, hr⟩ := tabB_iff.1 ht
  have hs2 := hs
  unfold specB at hs2
  rw [Bool.and_eq_true, Bool.and_eq_true, Bool.and_eq_true, decide_eq_true_iff, decide_eq_true_iff] at hs2
  have e : wrap64 (t.sid + 1) = t.sid + 1 := by have h1 := hs2.2.1; have h2 := hs2.2.2.1; rw [wrap64]; omega
  unfold partP25 at h
  rw [e] at h
  split at h
  · cases h
  · rename_i h0
    injection h with h
    subst h
    exact ⟨tabB_iff.2 ⟨hm, (by cases hb : specB (t.sid + 1) o.fs t.s with | false => exact absurd hb h0 | true => rfl), hl, hr⟩, rfl⟩
end Go.Proofs.YtnphokhehacfnaaGreatDoor

namespace Go.Proofs.YtnphokhehacfnaaGreatDoor
open Go.RowKit

theorem rowW_ok {s : Sch} {vs : List Val} (h : rowW s.cols vs = true) : rowB s vs = true := by
  obtain ⟨h1, h2⟩ := rowW_iff.1 h
  rw [rowB_of h1, rowUpto_iff]
  intro i _ c v hc hv
  have := h2 i c v hc hv
  unfold wholeB fitsB at this
  unfold cellOk
  rw [Bool.and_eq_true, Bool.or_eq_true, Bool.and_eq_true, Bool.and_eq_true] at this
  rw [Bool.or_eq_true]
  rcases this.2 with h3 | h3
  · exact .inl h3
  · exact .inr h3.1.1
theorem rows_okT {t : Tb} (ht : tabB t = true) (k : Nat) : rowsOk t.s t.rows k = true := by
  unfold rowsOk
  rw [List.all_eq_true]
  intro vs hvs
  exact rowW_ok (List.all_eq_true.1 (tabB_iff.1 ht).2.2.2 vs (List.mem_of_mem_take hvs))
theorem pures {t : Tb} (ht : tabB t = true) {l : List (List Val)} (h : ∀ vs ∈ l, vs ∈ t.rows) : l.map (List.map clean) = l := by
  refine (List.map_congr_left (g := id) fun vs hvs => ?_).trans (List.map_id _)
  have := may_pure ht vs (h vs hvs)
  unfold Pure at this
  exact this
theorem selT {t : Tb} {ns : List Nod} (ht : tabB t = true) (hc : checkE ns t.s = 0) : (selR ns t.s t.rows).1 = yesTo ns t.s t.rows t.rows.length := by
  rw [selR, if_neg (by omega), if_pos (rows_okT ht _)]
theorem leftT {t : Tb} {ns : List Nod} (ht : tabB t = true) (hc : checkE ns t.s = 0) : (takeR t.rows (withoutR (t.rows.length : Int) (selR ns t.s t.rows).1).1).1 = t.rows.filter fun vs => !yesV ns t.s vs := by
  rw [selT ht hc, without_yes _ _ _ _ (tabB_iff.1 ht).2.2.1, take_of (no_bds ns t.s t.rows _), no_filter _ _ _ _ (Nat.le_refl _), List.take_length]
  exact pures ht fun vs hvs => (List.mem_filter.1 hvs).1
theorem take_eq {t : Tb} {o : Opp} (ht : tabB t = true) : takeP t o = if predB o.ns = false then .error 9 else if checkE o.ns t.s ≠ 0 then .error 5 else .ok ⟨t.s, t.sid, t.fs, t.rows.filter fun vs => !yesV o.ns t.s vs⟩ := by
  unfold takeP yesP
  by_cases hp : predB o.ns = false
  · rw [if_pos hp, if_pos hp]
  · rw [if_neg hp, if_neg hp]
    by_cases hc : checkE o.ns t.s ≠ 0
    · rw [if_pos hc, if_pos hc]
    · rw [if_neg hc, if_neg hc]
      show Except.ok _ = Except.ok _
      rw [leftT ht (by omega)]
theorem filter_may {t : Tb} (ht : tabB t = true) (p : List Val → Bool) : tabB ⟨t.s, t.sid, t.fs, t.rows.filter p⟩ = true := by
  obtain ⟨hm, hs, hl, hr⟩ := tabB_iff.1 ht
  refine tabB_iff.2 ⟨hm, hs, Nat.le_trans (List.length_filter_le _ _) hl, ?_⟩
  show (t.rows.filter p).all _ = true
  rw [List.all_eq_true] at hr ⊢
  exact fun vs hvs => hr vs (List.mem_filter.1 hvs).1
theorem same_refl {t : Tb} (h : tabB t = true) : SameT t t := ⟨h, h, rfl, rfl, rfl, rfl, rfl, List.Perm.refl _⟩
theorem apply_inv {t u : Tb} {o : Opp} (h : applyP t o = (u, 0)) : tabB t = true ∧ 0 ≤ o.kind ∧ o.kind ≤ 8 ∧ runP t o = .ok u := by
  unfold applyP at h
  split at h
  · injection h with _ h; omega
  · rename_i hq
    have hq : tabB t = true ∧ 0 ≤ o.kind ∧ o.kind ≤ 8 := by
      refine ⟨?_, by omega, by omega⟩
      cases hb : tabB t with
      | false => exact absurd (Or.inl hb) hq
      | true => rfl
    refine ⟨hq.1, hq.2.1, hq.2.2, ?_⟩
    split at h
    · rename_i hr
      injection h with _ h
      exact absurd h (run_err hr)
    · rename_i hr
      injection h with h
      rw [hr, h]
theorem apply_back {t u : Tb} {o : Opp} {c : Int} (h : applyP t o = (u, c)) (hc : c ≠ 0) : u = t := by
  unfold applyP at h
  split at h
  · injection h with h; exact h.symm
  · split at h
    · injection h with h; exact h.symm
    · injection h with _ h; exact absurd h.symm hc
def turned (o : Opp) : Opp := { o with kind := 3 - o.kind }
/-- A delete, a mark again. -/
theorem twice_take {t u : Tb} {o : Opp} (h : applyP t o = (u, 0)) (hk : o.kind = 1 ∨ o.kind = 2) : applyP u o = (u, 0) ∧ applyP t (turned o) = (u, 0) ∧ SameT u u ∧ u.rows.length ≤ t.rows.length := by
  obtain ⟨ht, _, _, hr⟩ := apply_inv h
  have rt : ∀ (x : Tb) (p : Opp), (p.kind = 1 ∨ p.kind = 2) → runP x p = takeP x p := fun x p hp => by rw [runP, if_neg (by omega), if_pos hp]
  rw [rt t o hk] at hr
  have hr2 := hr
  rw [take_eq ht] at hr2
  split at hr2
  · cases hr2
  · rename_i hp
    split at hr2
    · cases hr2
    · rename_i hc
      injection hr2 with hu
      have hu2 : tabB u = true := by rw [← hu]; exact filter_may ht _
      refine ⟨?_, ?_, same_refl hu2, by rw [← hu]; exact List.length_filter_le _ _⟩
      · rw [applyP_run hu2 (by omega) (by omega), rt u o hk, take_eq hu2, if_neg hp, if_neg (by rw [← hu]; exact hc)]
        have e : u.rows.filter (fun vs => !yesV o.ns u.s vs) = u.rows := by
          rw [← hu]
          show (t.rows.filter _).filter _ = t.rows.filter _
          rw [List.filter_filter]
          congr 1
          funext vs
          simp
        rw [e]
      · have e : takeP t (turned o) = takeP t o := rfl
        rw [applyP_run ht (by show ¬ 3 - o.kind < 0; omega) (by show ¬ 8 < 3 - o.kind; omega), rt t (turned o) (by show 3 - o.kind = 1 ∨ 3 - o.kind = 2; omega), e, hr]
theorem twice_add {t u : Tb} {o : Opp} (h : applyP t o = (u, 0)) (hk : o.kind = 0) : u.rows.length = t.rows.length + o.rows.length := by
  obtain ⟨_, _, _, hr⟩ := apply_inv h
  rw [runP, if_pos hk, grow_eq] at hr
  split at hr
  · cases hr
  split at hr
  · cases hr
  unfold growC at hr
  split at hr
  · cases hr
  · split at hr
    · cases hr
    · split at hr
      · cases hr
      · injection hr with hr
        rw [← hr]
        simp
theorem setRows_length (col : Nat) (v : Val) : ∀ (l : List Int) (vss : List (List Val)), (setRows vss col v l).length = vss.length
  | [], _ => rfl
  | x :: l, vss => by
    show (setRows (vss.modify x.toNat fun r => r.set col v) col v l).length = _
    rw [setRows_length col v l, List.length_modify]
theorem twice_upd {t u : Tb} {o : Opp} (h : applyP t o = (u, 0)) (hk : o.kind = 3) : u.rows.length = t.rows.length := by
  obtain ⟨_, _, _, hr⟩ := apply_inv h
  rw [runP, if_neg (by omega), if_neg (by omega), if_pos hk, upd_eq] at hr
  split at hr
  · cases hr
  split at hr
  · cases hr
  unfold updC at hr
  split at hr
  · cases hr
  split at hr
  · cases hr
  injection hr with hr
  rw [← hr]
  exact setRows_length _ _ _ _
theorem twice_comp {t u : Tb} {o : Opp} (h : applyP t o = (u, 0)) (hk : o.kind = 8) : u = t ∧ SameT u t := by
  obtain ⟨ht, _, _, hr⟩ := apply_inv h
  rw [runP, if_neg (by omega), if_neg (by omega), if_neg (by omega), if_neg (by omega), if_neg (by omega), if_neg (by omega), if_neg (by omega)] at hr
  injection hr with hr
  subst hr
  exact ⟨rfl, same_refl ht⟩
theorem twice_rest {t u : Tb} {o : Opp} (h : applyP t o = (u, 0)) (hk : 4 ≤ o.kind) : u.rows.length = t.rows.length ∧ tabB u = true := by
  obtain ⟨ht, _, h8, hr⟩ := apply_inv h
  rw [runP, if_neg (by omega), if_neg (by omega), if_neg (by omega)] at hr
  split at hr
  · have := addc_may ht hr; exact ⟨this.2, this.1⟩
  split at hr
  · have := drop_may ht hr; exact ⟨this.2, this.1⟩
  split at hr
  · have := ren_may ht hr; exact ⟨this.2, this.1⟩
  split at hr
  · have := part_may ht hr; exact ⟨this.2, this.1⟩
  · injection hr with hr
    subst hr
    exact ⟨rfl, ht⟩
end Go.Proofs.YtnphokhehacfnaaGreatDoor

