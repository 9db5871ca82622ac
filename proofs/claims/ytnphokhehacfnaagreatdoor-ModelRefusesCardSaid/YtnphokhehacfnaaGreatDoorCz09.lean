/-
  Texts put together: De, Df, D9, Dc.
-/
import Derived.Test.YtnphokhehacfnaaGreatDoorCz01
import Derived.Test.YtnphokhehacfnaaGreatDoorCz03
import Derived.Test.YtnphokhehacfnaaGreatDoorCz05
import Derived.Test.YtnphokhehacfnaaGreatDoorCz06
import Derived.Test.YtnphokhehacfnaaGreatDoorCz07
import Derived.Test.YtnphokhehacfnaaGreatDoorCz08
namespace Go.Proofs.YtnphokhehacfnaaGreatDoor
open Go.RowKit

/-- The places a predicate takes, or a thrown code. -/
def YesR (w : World) (r : Except Int (List Int)) (e : Ending) (w' : World) : Prop :=
  match r with
  | .error c => e = .panicked [{ v := faultM c, recovered := false }]
  | .ok l => ∃ (A' : Option Addr) (c' : Nat), e = .returned (.slice A' l.length c') ∧ Own w' w.heap.size 3 1 (.slice A' l.length c') (intCells l)
set_option maxRecDepth 100000 in
set_option maxHeartbeats 8000000 in
theorem yes_any {w1 : World} (g D T O : Nat) (t : TbA) (o : OpA) (w : World) (h : Doer w g D T O t o) (ho : OpIn w1 o) [f1 : Fut w1 w] (hf : TbFine t) :
    Calls Tryz.prog 124 #[.pointer (some ⟨D, 0, none⟩)] w fun e w' => YesR w (yesP t.tb o.ns) e w' ∧ Step w w' := by
  have hin := h.own.r.tin hf
  have CK := fun w' [Fut w1 w'] [Fut w w'] => pcheck_any o.ns o.An o.cn t.s t.As t.cs w' ho.prd hin.sch
  have SR := fun w' [Fut w1 w'] [Fut w w'] => pselRows_any o.ns o.An o.cn t.s t.As t.cs t.rs t.Ar t.cr w' ho.prd hin.sch hin.rows
  unfold Sch.val at CK SR
  have HD := hide h
  obtain ⟨R, hR⟩ : ∃ R, yesP t.tb o.ns = R := ⟨_, rfl⟩
  have HR := hide hR
  rw [hR]
  clear hR h hin
  obtain ⟨d0, d1⟩ := At.z2 (HD.out.d.fut (w' := w)).at0
  have ld := (HD.out.d.fut (w' := w)).lt
  obtain ⟨t0, t1, t2, t3, t4, t5⟩ := At.z6 (HD.out.tb.fut (w' := w)).at0
  have lt_ := (HD.out.tb.fut (w' := w)).lt
  have ft_ := (HD.out.tb.fut (w' := w)).free
  obtain ⟨o0, o1, o2, o3, o4, o5, o6, o7, o8, o9, o10, o11, o12, o13, o14, o15⟩ := At.zOp (HD.out.op.fut (w' := w)).at0
  have lo := (HD.out.op.fut (w' := w)).lt
  unfold TbA.cells at *
  by_cases hc : checkE o.ns t.s = 0
  · have HY : Hid (R = .ok (selR o.ns t.s (t.rs.map RowA.vs)).1) := by show _ = _; rw [← HR.out, yesP, if_neg (by show ¬ checkE o.ns t.s ≠ 0; omega)]; rfl
    rw [hc] at CK
    have CK := hide CK; have SR := hide SR
    clear hc
    go_enter Tryz.func124, Tryz.ntmps124
    go_upto_region 1 with fail
    refine wp_region_held_drew (S := (fun w' => Step w w' ∧ (∀ b o, b < w.heap.size → w'.cell? ⟨b, o, none⟩ = w.cell? ⟨b, o, none⟩))) (by kernel_rfl) (by (try dsimp only); (first | exact ⟨hS1, hS2⟩ | exact ⟨Step.of, (bcell (fut _ _)).1⟩)) (fun hHeld => ?_)
    refine wT 0 5 (by assumption) ?_
    refine wT 7 12 (by assumption) ?_
    refine wT 1 6 (by assumption) ?_
    refine wT 8 13 (by assumption) ?_
    refine wT 2 7 (by assumption) ?_
    refine wT 9 14 (by assumption) ?_
    refine wT 3 8 (by assumption) ?_
    refine wT 10 15 (by assumption) ?_
    refine wT 4 9 (by assumption) ?_
    refine wT 11 16 (by assumption) ?_
    refine wT 5 10 (by assumption) ?_
    refine wT 12 17 (by assumption) ?_
    refine wT 6 11 (by assumption) ?_
    refine wT 13 18 (by assumption) ?_
    refine wpAnyH_ready (rs := [14]) (by kernel_rfl) (by simp) ?_
    refine AllReadyH.cons (o := ⟨some 19, _, _, _, _, _⟩) rfl (fun K hK => ?_) AllReadyH.nil
    obtain ⟨hS1, hS2⟩ := hHeld
    go_simp
    (go_at_call 158; (with_reducible refine (CK.out _).mono ?_); rintro e w5 ⟨rfl, hs5⟩)
    refine hK.out _ _ (by (try dsimp only); (first | exact ⟨hS1, hS2⟩ | exact ⟨Step.of, (bcell (fut _ _)).1⟩)) (fun hHeld => ?_)
    clear hK K
    (try simp only [Act.put, List.setIfInBounds_toArray, List.set_cons_zero, List.set_cons_succ])
    refine wT 15 20 (by assumption) ?_
    refine wpAnyH_ready (rs := [16]) (by kernel_rfl) (by simp) ?_
    refine AllReadyH.cons (o := ⟨some 21, _, _, _, _, _⟩) rfl (fun K hK => ?_) AllReadyH.nil
    obtain ⟨hS1, hS2⟩ := hHeld
    go_simp
    (go_at_call 122; (with_reducible refine (throw_no _ _).mono ?_); rintro e w9 ⟨rfl, h9⟩; obtain rfl := h9.symm)
    refine hK.out _ _ (by (try dsimp only); (first | exact ⟨hS1, hS2⟩ | exact ⟨Step.of, (bcell (fut _ _)).1⟩)) (fun hHeld => ?_)
    clear hK K
    (try simp only [Act.put, List.setIfInBounds_toArray, List.set_cons_zero, List.set_cons_succ])
    refine wpAnyH_done (by kernel_rfl) ?_ _
    clear d0 d1 ld t0 t1 t2 t3 t4 t5 lt_ ft_ o0 o1 o2 o3 o4 o5 o6 o7 o8 o9 o10 o11 o12 o13 o14 o15 lo
    obtain ⟨wq, hwq⟩ : ∃ x : World, x = w5 := ⟨_, rfl⟩
    rw [← hwq] at hs5 ⊢
    clear hwq
    go_upto_region 2 with fail
    obtain ⟨d0, d1⟩ := At.z2 (HD.out.d.fut (w' := wq)).at0
    have ld := (HD.out.d.fut (w' := wq)).lt
    obtain ⟨t0, t1, t2, t3, t4, t5⟩ := At.z6 (HD.out.tb.fut (w' := wq)).at0
    have lt_ := (HD.out.tb.fut (w' := wq)).lt
    have ft_ := (HD.out.tb.fut (w' := wq)).free
    obtain ⟨o0, o1, o2, o3, o4, o5, o6, o7, o8, o9, o10, o11, o12, o13, o14, o15⟩ := At.zOp (HD.out.op.fut (w' := wq)).at0
    have lo := (HD.out.op.fut (w' := wq)).lt
    refine wp_region_held_drew (S := (fun w' => Step wq w' ∧ (∀ b o, b < wq.heap.size → w'.cell? ⟨b, o, none⟩ = wq.cell? ⟨b, o, none⟩))) (by kernel_rfl) (by (try dsimp only); (first | exact ⟨hS1, hS2⟩ | exact ⟨Step.of, (bcell (fut _ _)).1⟩)) (fun hHeld => ?_)
    refine wT 0 23 (by assumption) ?_
    refine wT 7 30 (by assumption) ?_
    refine wT 14 37 (by assumption) ?_
    refine wT 1 24 (by assumption) ?_
    refine wT 8 31 (by assumption) ?_
    refine wT 15 38 (by assumption) ?_
    refine wT 2 25 (by assumption) ?_
    refine wT 9 32 (by assumption) ?_
    refine wT 16 39 (by assumption) ?_
    refine wT 3 26 (by assumption) ?_
    refine wT 10 33 (by assumption) ?_
    refine wT 17 40 (by assumption) ?_
    refine wT 4 27 (by assumption) ?_
    refine wT 11 34 (by assumption) ?_
    refine wT 18 41 (by assumption) ?_
    refine wT 5 28 (by assumption) ?_
    refine wT 12 35 (by assumption) ?_
    refine wT 19 42 (by assumption) ?_
    refine wT 6 29 (by assumption) ?_
    refine wT 13 36 (by assumption) ?_
    refine wT 20 43 (by assumption) ?_
    refine wpAnyH_ready (rs := [21]) (by kernel_rfl) (by simp) ?_
    refine AllReadyH.cons (o := ⟨some 44, _, _, _, _, _⟩) rfl (fun K hK => ?_) AllReadyH.nil
    obtain ⟨hS1, hS2⟩ := hHeld
    go_simp
    (go_at_call 159; (with_reducible refine (SR.out _).mono ?_); rintro e w6 ⟨A6, c6, rfl, ho6, hs6⟩; have HO6 := hide ho6; clear ho6)
    refine hK.out _ _ (by (try dsimp only); (first | exact ⟨hS1, hS2⟩ | exact ⟨Step.of, (bcell (fut _ _)).1⟩)) (fun hHeld => ?_)
    clear hK K
    (try simp only [Act.put, List.setIfInBounds_toArray, List.set_cons_zero, List.set_cons_succ])
    refine wT 22 22 (by assumption) ?_
    refine wT 23 45 (by assumption) ?_
    refine wT 24 46 (by assumption) ?_
    refine wT 25 3 (by assumption) ?_
    refine wT 26 4 (by assumption) ?_
    refine wpAnyH_done (by kernel_rfl) ?_ _
    go_wp2_with fail
    go_ret
    exact ⟨by rw [HY.out]; exact ⟨A6, c6, rfl, HO6.out.more (fut w wq).size⟩, Step.of⟩
  · have HY : Hid (R = .error 5) := by show _ = _; rw [← HR.out, yesP, if_pos (by show checkE o.ns t.s ≠ 0; omega)]
    have hcb : (checkE o.ns t.s != 0) = true := bne_iff_ne.2 hc
    have CK := hide CK
    clear hc SR
    go_enter Tryz.func124, Tryz.ntmps124
    go_upto_region 1 with fail
    refine wp_region_held_drew (S := (fun w' => Step w w' ∧ (∀ b o, b < w.heap.size → w'.cell? ⟨b, o, none⟩ = w.cell? ⟨b, o, none⟩))) (by kernel_rfl) (by (try dsimp only); (first | exact ⟨hS1, hS2⟩ | exact ⟨Step.of, (bcell (fut _ _)).1⟩)) (fun hHeld => ?_)
    refine wT 0 5 (by assumption) ?_
    refine wT 7 12 (by assumption) ?_
    refine wT 1 6 (by assumption) ?_
    refine wT 8 13 (by assumption) ?_
    refine wT 2 7 (by assumption) ?_
    refine wT 9 14 (by assumption) ?_
    refine wT 3 8 (by assumption) ?_
    refine wT 10 15 (by assumption) ?_
    refine wT 4 9 (by assumption) ?_
    refine wT 11 16 (by assumption) ?_
    refine wT 5 10 (by assumption) ?_
    refine wT 12 17 (by assumption) ?_
    refine wT 6 11 (by assumption) ?_
    refine wT 13 18 (by assumption) ?_
    refine wpAnyH_ready (rs := [14]) (by kernel_rfl) (by simp) ?_
    refine AllReadyH.cons (o := ⟨some 19, _, _, _, _, _⟩) rfl (fun K hK => ?_) AllReadyH.nil
    obtain ⟨hS1, hS2⟩ := hHeld
    go_simp
    (go_at_call 158; (with_reducible refine (CK.out _).mono ?_); rintro e w5 ⟨rfl, hs5⟩)
    refine hK.out _ _ (by (try dsimp only); (first | exact ⟨hS1, hS2⟩ | exact ⟨Step.of, (bcell (fut _ _)).1⟩)) (fun hHeld => ?_)
    clear hK K
    (try simp only [Act.put, List.setIfInBounds_toArray, List.set_cons_zero, List.set_cons_succ])
    refine wT 15 20 (by assumption) ?_
    refine wpAnyH_ready (rs := [16]) (by kernel_rfl) (by simp) ?_
    refine AllReadyH.cons (o := ⟨some 21, _, _, _, _, _⟩) rfl (fun K hK => ?_) AllReadyH.nil
    obtain ⟨hS1, hS2⟩ := hHeld
    go_simp
    (go_at_call 122; (with_reducible refine (throw_yes _ _).mono ?_); rintro e w9 ⟨rfl, h9⟩; obtain rfl := h9.symm)
    exact ⟨rfl, by rw [HY.out]; rfl, Step.of⟩
end Go.Proofs.YtnphokhehacfnaaGreatDoor

namespace Go.Proofs.YtnphokhehacfnaaGreatDoor
open Go.RowKit

theorem TbOwn.setT {w : World} {g T : Nat} {t : TbA} {cs : List Value} (h : TbOwn w g t) (hb : Blk w T 30 cs) (i : Nat) (u : Value) : TbOwn (w.setCell ⟨T, i, none⟩ u) g t :=
  ⟨h.cols.set_other hb (by decide) i u, h.ccap, h.flds.set_other hb (by decide) i u, ⟨⟨h.rows.rows.out.set_other hb (by decide) i u, fun z hz => (h.rows.rows.rows z hz).set_other hb (by decide) i u⟩, h.rows.diff⟩⟩
theorem TbOwnR.setT {w : World} {g T : Nat} {t : TbA} {cs : List Value} (h : TbOwnR w g t) (hb : Blk w T 30 cs) (i : Nat) (u : Value) : TbOwnR (w.setCell ⟨T, i, none⟩ u) g t :=
  ⟨h.cols.set_other hb (by decide) i u, h.flds.set_other hb (by decide) i u, ⟨h.rows.out.set_other hb (by decide) i u, fun z hz => (h.rows.rows z hz).set_other hb (by decide) i u⟩⟩
theorem Mt.drew {g T : Nat} {w w' : World} (h : Mt g T w w') : Mt g T w w'.drew := ⟨h.below.drew, fun b e cur h1 h2 h3 hb => (h.keep b e cur h1 h2 h3 hb).drew⟩
theorem Doer.dT {w : World} {g D T O : Nat} {t : TbA} {o : OpA} (h : Doer w g D T O t o) : D ≠ T := h.d.ne_ h.tb (by decide)
theorem Doer.oT {w : World} {g D T O : Nat} {t : TbA} {o : OpA} (h : Doer w g D T O t o) : O ≠ T := h.op.ne_ h.tb (by decide)
def set3 (w : World) (b : Nat) (x y z : Value) : World := ((w.setCell ⟨b, 0, none⟩ x).setCell ⟨b, 1, none⟩ y).setCell ⟨b, 2, none⟩ z
/-- Another schema is put. -/
theorem Doer.shape {w : World} {g D T O : Nat} {t : TbA} {o : OpA} (h : Doer w g D T O t o) {s : Sch} {A : Option Addr} {c : Nat} (ho : Own w g 90 3 (.slice A s.cols.length c) (s.cols.map Col.cells)) (hc : s.cols.length ≤ c) :
    Doer (set3 w T (.int .i64 s.id) (.slice A s.cols.length c) (.int .i64 s.next)) g D T O ⟨s, A, c, t.sid, t.fs, t.Af, t.cf, t.rs, t.Ar, t.cr⟩ o ∧ Mt g T w (set3 w T (.int .i64 s.id) (.slice A s.cols.length c) (.int .i64 s.next)) := by
  have b1 := h.tb.set_ 0 (.int .i64 s.id)
  have b2 := b1.set_ 1 (.slice A s.cols.length c)
  have b3 := b2.set_ 2 (.int .i64 s.next)
  have q := ((h.own.setT h.tb 0 (.int .i64 s.id)).setT b1 1 (.slice A s.cols.length c)).setT b2 2 (.int .i64 s.next)
  have p := ((ho.set_other h.tb (by decide) 0 (.int .i64 s.id)).set_other b1 (by decide) 1 (.slice A s.cols.length c)).set_other b2 (by decide) 2 (.int .i64 s.next)
  refine ⟨⟨((h.d.far (p := ⟨T, 0, none⟩) h.dT _).far (p := ⟨T, 1, none⟩) h.dT _).far (p := ⟨T, 2, none⟩) h.dT _, b3, ((h.op.far (p := ⟨T, 0, none⟩) h.oT _).far (p := ⟨T, 1, none⟩) h.oT _).far (p := ⟨T, 2, none⟩) h.oT _, ⟨p, hc, q.flds, q.rows⟩, h.gT⟩, ?_⟩
  exact ((Mt.cell w h.gT 0 _).trans (Mt.cell _ h.gT 1 _)).trans (Mt.cell _ h.gT 2 _)

set_option maxRecDepth 100000 in
set_option maxHeartbeats 4000000 in
theorem shape_no (g D T O : Nat) (t : TbA) (o : OpA) (s : Value) (x : Int) (hx : x ≠ 0) (u0 u1 u2 : Value) (hs : s = .agg #[u0, u1, u2]) (w : World) (_h : Doer w g D T O t o) :
    Calls Tryz.prog 90 #[.pointer (some ⟨D, 0, none⟩), s, .int .i64 x] w fun e w' => e = .panicked [{ v := faultM 5, recovered := false }] ∧ Step w w' := by
  subst hs
  have hxb : (x != 0) = true := bne_iff_ne.2 hx
  go_enter Tryz.func90, Tryz.ntmps90
  go_wp2_with (go_at_call 122; (with_reducible refine (throw_yes _ _).mono ?_); rintro e w9 ⟨rfl, h9⟩; obtain rfl := h9.symm)
  exact ⟨rfl, rfl, Step.of⟩
set_option maxRecDepth 100000 in
set_option maxHeartbeats 4000000 in
theorem shape_ok (g D T O : Nat) (t : TbA) (o : OpA) (s : Sch) (A : Option Addr) (c : Nat) (w : World) (h : Doer w g D T O t o) (ho : Own w g 90 3 (.slice A s.cols.length c) (s.cols.map Col.cells)) (hc : s.cols.length ≤ c) (hg : g ≤ w.heap.size) :
    Calls Tryz.prog 90 #[.pointer (some ⟨D, 0, none⟩), .agg #[.int .i64 s.id, .slice A s.cols.length c, .int .i64 s.next], .int .i64 0] w fun e w' => e = .returned (.tuple #[]) ∧ Doer w' g D T O ⟨s, A, c, t.sid, t.fs, t.Af, t.cf, t.rs, t.Ar, t.cr⟩ o ∧ Mt g T w w' := by
  obtain ⟨W1, hW1⟩ : ∃ x : World, x = w.alloc (.cells #[.int .i64 s.id, .slice A s.cols.length c, .int .i64 s.next] 24) := ⟨_, rfl⟩
  have HB : Hid (Blk W1 w.heap.size 24 [.int .i64 s.id, .slice A s.cols.length c, .int .i64 s.next]) := by rw [hW1]; exact Blk.new w _ 24
  have SW1 : Step w W1 := by rw [hW1]; exact Step.of
  have HD : Hid (Doer W1 g D T O t o) := h.fut
  have HSH := hide (fun (w' : World) (hq : Fut W1 w') => (HD.out.fut (w' := w')).shape ((ho.fut (w' := W1)).fut (w' := w')) hc)
  obtain ⟨x0, x1, x2⟩ := At.z3 HB.out.at0
  have lx := HB.out.lt
  obtain ⟨d0, d1⟩ := At.z2 (HD.out.d.fut (w' := W1)).at0
  have ld := (HD.out.d.fut (w' := W1)).lt
  obtain ⟨t0, t1, t2, t3, t4, t5⟩ := At.z6 (HD.out.tb.fut (w' := W1)).at0
  have lt_ := (HD.out.tb.fut (w' := W1)).lt
  have ft_ := (HD.out.tb.fut (w' := W1)).free
  obtain ⟨o0, o1, o2, o3, o4, o5, o6, o7, o8, o9, o10, o11, o12, o13, o14, o15⟩ := At.zOp (HD.out.op.fut (w' := W1)).at0
  have lo := (HD.out.op.fut (w' := W1)).lt
  clear h ho
  unfold TbA.cells at *
  go_enter Tryz.func90, Tryz.ntmps90
  go_upto_region 2 with (go_at_call 122; (with_reducible refine (throw_no _ _).mono ?_); rintro e w9 ⟨rfl, h9⟩; obtain rfl := h9.symm)
  rw [← hW1]
  clear hW1
  refine wp_region_held_drew (S := (fun w' : World => True ∧ True)) (by kernel_rfl) (by (try dsimp only); (exact ⟨trivial, trivial⟩)) (fun hHeld => ?_)
  refine wT 0 9 (by assumption) ?_
  refine wT 1 10 (by assumption) ?_
  refine wT 2 11 (by assumption) ?_
  refine wpAnyH_ready (rs := [3, 4]) (by kernel_rfl) (by simp) ?_
  refine AllReadyH.cons (o := ⟨some 12, _, _, _, _, _⟩) rfl (fun K hK => ?_) (AllReadyH.cons (o := ⟨some 13, _, _, _, _, _⟩) rfl (fun K hK => ?_) AllReadyH.nil)
  · go_simp
    refine hK.out _ _ (by (try dsimp only); (exact ⟨trivial, trivial⟩)) (fun hHeld => ?_)
    clear hK K
    (try simp only [Act.put, List.setIfInBounds_toArray, List.set_cons_zero, List.set_cons_succ])
    refine wpAnyH_ready (rs := [4]) (by kernel_rfl) (by simp) ?_
    refine AllReadyH.cons (o := ⟨some 13, _, _, _, _, _⟩) rfl (fun K hK => ?_) AllReadyH.nil
    go_simp
    refine hK.out _ _ (by (try dsimp only); (exact ⟨trivial, trivial⟩)) (fun hHeld => ?_)
    clear hK K
    (try simp only [Act.put, List.setIfInBounds_toArray, List.set_cons_zero, List.set_cons_succ])
    refine wT 5 14 (by assumption) ?_
    refine wT 6 15 (by assumption) ?_
    refine wpAnyH_ready (rs := [7]) (by kernel_rfl) (by simp) ?_
    refine AllReadyH.cons (o := ⟨none, _, _, _, _, _⟩) rfl (fun K hK => ?_) AllReadyH.nil
    go_simp
    refine hK.out _ _ (by (try dsimp only); (exact ⟨trivial, trivial⟩)) (fun hHeld => ?_)
    clear hK K
    (try simp only [Act.put, List.setIfInBounds_toArray, List.set_cons_zero, List.set_cons_succ])
    refine wpAnyH_done (by kernel_rfl) ?_ _
    clear x0 x1 x2 lx d0 d1 ld t0 t1 t2 t3 t4 t5 lt_ ft_ o0 o1 o2 o3 o4 o5 o6 o7 o8 o9 o10 o11 o12 o13 o14 o15 lo
    go_wp2_with fail
    go_end0
    have hh := HSH.out W1 inferInstance
    have hd := hh.1.fut (w' := (set3 W1 T (.int .i64 s.id) (.slice A s.cols.length c) (.int .i64 s.next)).drew)
    exact ⟨rfl, hd, ((Mt.step hg (fut w W1)).trans hh.2).drew⟩
  · go_simp
    refine hK.out _ _ (by (try dsimp only); (exact ⟨trivial, trivial⟩)) (fun hHeld => ?_)
    clear hK K
    (try simp only [Act.put, List.setIfInBounds_toArray, List.set_cons_zero, List.set_cons_succ])
    refine wpAnyH_ready (rs := [3]) (by kernel_rfl) (by simp) ?_
    refine AllReadyH.cons (o := ⟨some 12, _, _, _, _, _⟩) rfl (fun K hK => ?_) AllReadyH.nil
    go_simp
    refine hK.out _ _ (by (try dsimp only); (exact ⟨trivial, trivial⟩)) (fun hHeld => ?_)
    clear hK K
    (try simp only [Act.put, List.setIfInBounds_toArray, List.set_cons_zero, List.set_cons_succ])
    refine wT 5 14 (by assumption) ?_
    refine wT 6 15 (by assumption) ?_
    refine wpAnyH_ready (rs := [7]) (by kernel_rfl) (by simp) ?_
    refine AllReadyH.cons (o := ⟨none, _, _, _, _, _⟩) rfl (fun K hK => ?_) AllReadyH.nil
    go_simp
    refine hK.out _ _ (by (try dsimp only); (exact ⟨trivial, trivial⟩)) (fun hHeld => ?_)
    clear hK K
    (try simp only [Act.put, List.setIfInBounds_toArray, List.set_cons_zero, List.set_cons_succ])
    refine wpAnyH_done (by kernel_rfl) ?_ _
    clear x0 x1 x2 lx d0 d1 ld t0 t1 t2 t3 t4 t5 lt_ ft_ o0 o1 o2 o3 o4 o5 o6 o7 o8 o9 o10 o11 o12 o13 o14 o15 lo
    go_wp2_with fail
    go_end0
    have hh := HSH.out W1 inferInstance
    have hd := hh.1.fut (w' := (set3 W1 T (.int .i64 s.id) (.slice A s.cols.length c) (.int .i64 s.next)).drew)
    exact ⟨rfl, hd, ((Mt.step hg (fut w W1)).trans hh.2).drew⟩

theorem yesTo_bd (ns : List Nod) (s : Sch) (vss : List (List Val)) : (selR ns s vss).1.length ≤ vss.length := by
  unfold selR
  split
  · simp
  · split
    · exact yesTo_len ns s vss _
    · simp
end Go.Proofs.YtnphokhehacfnaaGreatDoor

namespace Go.Proofs.YtnphokhehacfnaaGreatDoor
open Go.RowKit

/-- The one of two that counts. -/
def selV (p : Val → Val → Bool) (a v : Val) : Val := if kindV a = 0 ∨ (kindV v ≠ 0 ∧ p (clean v) (clean a) = true) then clean v else clean a
def Val.ag (v : Val) : Value := .agg #[.int .i64 v.kind, .int .i64 v.i, .bool v.b, .string v.s]
theorem clean_agD (v : Val) : (clean v).ag = .agg #[.int .i64 (kindV v), .int .i64 (clean v).i, .bool (clean v).b, .string (clean v).s] := by rw [Val.ag, clean_kind]
def minP (vs : List Val) : Val := vs.foldl (selV lessV) Val.zero
def maxP (vs : List Val) : Val := vs.foldl (selV fun x y => lessV y x) Val.zero
def nullsP (vs : List Val) : Nat := vs.countP fun v => kindV v == 0
/-- What is added so far. -/
def sumI : List Val → Int
  | [] => 0
  | v :: r => (if v.kind = 0 then 0 else v.i) + sumI r
def badK (v : Val) : Bool := v.kind != 0 && v.kind != 1
def someK (v : Val) : Bool := v.kind != 0
def sumP (vs : List Val) : Val × Int :=
  if vs.any badK = true then (Val.zero, 1701)
  else if vs.any someK = false then (Val.zero, 0)
  else if -9223372036854775808 ≤ sumI vs ∧ sumI vs ≤ 9223372036854775807 then (⟨1, sumI vs, false, .empty⟩, 0)
  else (Val.zero, 1702)
def aggP (k : Int) (vs : List Val) : Val × Int :=
  if k = 0 then (Val.zero, 0)
  else if k = 1 then (⟨1, (vs.length : Int) - (nullsP (vs.map clean) : Int), false, .empty⟩, 0)
  else if k = 2 then sumP (vs.map clean)
  else if k = 3 then (minP (vs.map clean), 0)
  else if k = 4 then (maxP (vs.map clean), 0)
  else (Val.zero, 1700)
theorem sumI_app (a b : List Val) : sumI (a ++ b) = sumI a + sumI b := by
  induction a with
  | nil => simp [sumI]
  | cons x r ih => simp only [List.cons_append, sumI, ih]; omega
theorem sumI_snoc (a : List Val) (v : Val) : sumI (a ++ [v]) = sumI a + (if v.kind = 0 then 0 else v.i) := by
  rw [sumI_app]; simp [sumI]
/-- The two words of a sum. -/
structure Two (s : Int) (low high : Nat) : Prop where
  lo : low < 18446744073709551616
  hi : high < 18446744073709551616
  eq : ∃ h : Int, s = h * 18446744073709551616 + low ∧ (high : Int) = h % 18446744073709551616
theorem Two.zero : Two 0 0 0 := ⟨by decide, by decide, 0, by simp, by simp⟩
/-- One number more. -/
theorem Two.add {s : Int} {low high : Nat} (h : Two s low high) {v : Int} (h1 : -9223372036854775808 ≤ v) (h2 : v ≤ 9223372036854775807) {x l c hh : Nat} (hx : (x : Int) = v % 18446744073709551616)
    (hl : l = (low + x) % 18446744073709551616) (hc : c = (low + x) / 18446744073709551616) (hhh : (hh : Int) = ((high : Int) + c + (if v < 0 then -1 else 0)) % 18446744073709551616) : Two (s + v) l hh := by
  obtain ⟨lo, hi, k, e1, e2⟩ := h
  refine ⟨by omega, by omega, k + c + (if v < 0 then -1 else 0), ?_, ?_⟩
  · by_cases hv : v < 0
    · rw [if_pos hv]
      have : (x : Int) = v + 18446744073709551616 := by omega
      subst hl
      subst hc
      omega
    · rw [if_neg hv]
      have : (x : Int) = v := by omega
      subst hl
      subst hc
      omega
  · rw [hhh, e2]
    by_cases hv : v < 0
    · rw [if_pos hv]; omega
    · rw [if_neg hv]; omega
/-- Is the sum a number's? -/
theorem Two.fits {s : Int} {low high : Nat} (h : Two s low high) (hb : -170141183460469231731687303715884105728 ≤ s ∧ s ≤ 170141183460469231731687303715884105727) :
    ((high : Int) = (if (low : Int) ≥ 9223372036854775808 then 18446744073709551615 else 0)) ↔ (-9223372036854775808 ≤ s ∧ s ≤ 9223372036854775807) := by
  obtain ⟨lo, hi, k, e1, e2⟩ := h
  by_cases hl : (low : Int) ≥ 9223372036854775808
  · rw [if_pos hl]
    constructor
    · intro he
      have : k = -1 := by omega
      subst this
      omega
    · intro he
      have : k = -1 := by omega
      subst this
      omega
  · rw [if_neg hl]
    constructor
    · intro he
      have : k = 0 := by omega
      subst this
      omega
    · intro he
      have : k = 0 := by omega
      subst this
      omega
theorem Two.val {s : Int} {low high : Nat} (h : Two s low high) (hf : -9223372036854775808 ≤ s ∧ s ≤ 9223372036854775807) : s = if (low : Int) ≥ 9223372036854775808 then (low : Int) - 18446744073709551616 else low := by
  obtain ⟨lo, hi, k, e1, e2⟩ := h
  split <;> omega
theorem sumI_bd : ∀ {vs : List Val}, (∀ v ∈ vs, -9223372036854775808 ≤ v.i ∧ v.i ≤ 9223372036854775807) → -(vs.length * 9223372036854775808 : Int) ≤ sumI vs ∧ sumI vs ≤ vs.length * 9223372036854775808
  | [], _ => by simp [sumI]
  | v :: r, h => by
    have ih := sumI_bd (vs := r) (fun u hu => h u (by simp [hu]))
    have hv := h v (by simp)
    simp only [sumI, List.length_cons]
    split <;> omega
end Go.Proofs.YtnphokhehacfnaaGreatDoor

namespace Go.Proofs.YtnphokhehacfnaaGreatDoor
open Go.RowKit

set_option maxRecDepth 100000 in
set_option maxHeartbeats 8000000 in
theorem lesser_any (f : FuncId) (p : Val → Val → Bool) (a b : Val) (w : World) (hcall : ∀ args w, (callFunc f args).run Tryz.prog w = .ok (.enter f args) w)
    (hf : ∀ (x y : Val) (w' : World), Calls Tryz.prog f #[x.val, y.val] w' fun e w'' => e = .returned (.bool (p x y)) ∧ Step w' w'') :
    Calls Tryz.prog 182 #[.agg #[.int .i64 a.kind, .int .i64 a.i, .bool a.b, .string a.s], .agg #[.int .i64 b.kind, .int .i64 b.i, .bool b.b, .string b.s], .func (.func f) #[] #[]] w fun e w' => e = .returned (selV p a b).ag ∧ Step w w' := by
  have PA := hide (plain_ag a)
  have PB := hide (plain_ag b)
  have LF : Hid (∀ w', Calls Tryz.prog f #[.agg #[.int .i64 (kindV b), .int .i64 (clean b).i, .bool (clean b).b, .string (clean b).s], .agg #[.int .i64 (kindV a), .int .i64 (clean a).i, .bool (clean a).b, .string (clean a).s]] w' fun e w'' => e = .returned (.bool (p (clean b) (clean a))) ∧ Step w' w'') := fun w' => by
    have h := hf (clean b) (clean a) w'
    unfold Val.val at h
    rw [clean_kind, clean_kind] at h
    exact h
  clear hf
  obtain ⟨W, hW⟩ : ∃ W, W = ((w.alloc (.cells #[.int .i64 a.kind, .int .i64 a.i, .bool a.b, .string a.s] 36)).alloc (.cells #[.int .i64 b.kind, .int .i64 b.i, .bool b.b, .string b.s] 36)).alloc (.cells #[.int .i64 0, .int .i64 0, .bool false, .string ⟨#[]⟩] 36) := ⟨_, rfl⟩
  have SW : Step w W := by rw [hW]; exact Step.of
  have HA : Hid (Blk W w.heap.size 36 [.int .i64 a.kind, .int .i64 a.i, .bool a.b, .string a.s]) := by rw [hW]; exact ((Blk.new w [.int .i64 a.kind, .int .i64 a.i, .bool a.b, .string a.s] 36).alloc _).alloc _
  have HB : Hid (Blk W (w.heap.size + 1) 36 [.int .i64 b.kind, .int .i64 b.i, .bool b.b, .string b.s]) := by rw [hW]; exact (Blk.new_at (by simp) [.int .i64 b.kind, .int .i64 b.i, .bool b.b, .string b.s] 36).alloc _
  have HC : Hid (Blk W (w.heap.size + 2) 36 [.int .i64 0, .int .i64 0, .bool false, .string ⟨#[]⟩]) := by rw [hW]; exact Blk.new_at (by simp) [.int .i64 0, .int .i64 0, .bool false, .string ⟨#[]⟩] 36
  have HW := hide hW
  clear hW
  obtain ⟨R, hR⟩ : ∃ R, selV p a b = R := ⟨_, rfl⟩
  have HSR : Hid (selV p a b = R) := hR
  rw [hR]
  clear hR
  go_enter Tryz.func182, Tryz.ntmps182
  go_upto_region 1 with fail
  rw [← HW.out]
  obtain ⟨a0, a1, a2, a3⟩ := At.z4 (HA.out.fut (w' := W)).at0
  have la := (HA.out.fut (w' := W)).lt
  have fa := (HA.out.fut (w' := W)).free
  obtain ⟨b0, b1, b2, b3⟩ := At.z4 (HB.out.fut (w' := W)).at0
  have lb := (HB.out.fut (w' := W)).lt
  have fb := (HB.out.fut (w' := W)).free
  refine wp_region_held_drew (S := (fun w' => Step w w' ∧ True)) (by kernel_rfl) (by (try dsimp only); (exact ⟨Step.of, trivial⟩)) (fun hHeld => ?_)
  refine wpAnyH_ready (rs := [0, 2]) (by kernel_rfl) (by simp) ?_
  refine AllReadyH.cons (o := ⟨some 7, _, _, _, _, _⟩) rfl (fun K hK => ?_) (AllReadyH.cons (o := ⟨some 9, _, _, _, _, _⟩) rfl (fun K hK => ?_) AllReadyH.nil)
  · go_simp
    refine hK.out _ _ (by (try dsimp only); (exact ⟨Step.of, trivial⟩)) (fun hHeld => ?_)
    clear hK K
    (try simp only [Act.put, List.setIfInBounds_toArray, List.set_cons_zero, List.set_cons_succ])
    refine wpAnyH_ready (rs := [1, 2]) (by kernel_rfl) (by simp) ?_
    refine AllReadyH.cons (o := ⟨some 8, _, _, _, _, _⟩) rfl (fun K hK => ?_) (AllReadyH.cons (o := ⟨some 9, _, _, _, _, _⟩) rfl (fun K hK => ?_) AllReadyH.nil)
    · obtain ⟨hS1, hS2⟩ := hHeld
      go_simp
      (go_at_call 109; (with_reducible refine (PA.out _).mono ?_); rintro e w5 ⟨rfl, hs5⟩; clear a0 a1 a2 a3 la fa b0 b1 b2 b3 lb fb; obtain ⟨a0, a1, a2, a3⟩ := At.z4 (HA.out.fut (w' := w5)).at0; have la := (HA.out.fut (w' := w5)).lt; have fa := (HA.out.fut (w' := w5)).free; obtain ⟨b0, b1, b2, b3⟩ := At.z4 (HB.out.fut (w' := w5)).at0; have lb := (HB.out.fut (w' := w5)).lt; have fb := (HB.out.fut (w' := w5)).free)
      refine hK.out _ _ (by (try dsimp only); (exact ⟨Step.of, trivial⟩)) (fun hHeld => ?_)
      clear hK K
      (try simp only [Act.put, List.setIfInBounds_toArray, List.set_cons_zero, List.set_cons_succ])
      refine wpAnyH_ready (rs := [2]) (by kernel_rfl) (by simp) ?_
      refine AllReadyH.cons (o := ⟨some 9, _, _, _, _, _⟩) rfl (fun K hK => ?_) AllReadyH.nil
      go_simp
      refine hK.out _ _ (by (try dsimp only); (exact ⟨Step.of, trivial⟩)) (fun hHeld => ?_)
      clear hK K
      (try simp only [Act.put, List.setIfInBounds_toArray, List.set_cons_zero, List.set_cons_succ])
      refine wpAnyH_ready (rs := [3]) (by kernel_rfl) (by simp) ?_
      refine AllReadyH.cons (o := ⟨some 10, _, _, _, _, _⟩) rfl (fun K hK => ?_) AllReadyH.nil
      obtain ⟨hS1, hS2⟩ := hHeld
      go_simp
      (go_at_call 109; (with_reducible refine (PB.out _).mono ?_); rintro e w6 ⟨rfl, hs6⟩; clear a0 a1 a2 a3 la fa b0 b1 b2 b3 lb fb; obtain ⟨a0, a1, a2, a3⟩ := At.z4 (HA.out.fut (w' := w6)).at0; have la := (HA.out.fut (w' := w6)).lt; have fa := (HA.out.fut (w' := w6)).free; obtain ⟨b0, b1, b2, b3⟩ := At.z4 (HB.out.fut (w' := w6)).at0; have lb := (HB.out.fut (w' := w6)).lt; have fb := (HB.out.fut (w' := w6)).free)
      refine hK.out _ _ (by (try dsimp only); (exact ⟨Step.of, trivial⟩)) (fun hHeld => ?_)
      clear hK K
      (try simp only [Act.put, List.setIfInBounds_toArray, List.set_cons_zero, List.set_cons_succ])
      refine wpAnyH_ready (rs := [4]) (by kernel_rfl) (by simp) ?_
      refine AllReadyH.cons (o := ⟨none, _, _, _, _, _⟩) rfl (fun K hK => ?_) AllReadyH.nil
      go_simp
      refine hK.out _ _ (by (try dsimp only); (exact ⟨Step.of, trivial⟩)) (fun hHeld => ?_)
      clear hK K
      (try simp only [Act.put, List.setIfInBounds_toArray, List.set_cons_zero, List.set_cons_succ])
      refine wpAnyH_ready (rs := [5]) (by kernel_rfl) (by simp) ?_
      refine AllReadyH.cons (o := ⟨none, _, _, _, _, _⟩) rfl (fun K hK => ?_) AllReadyH.nil
      go_simp
      refine hK.out _ _ (by (try dsimp only); (exact ⟨Step.of, trivial⟩)) (fun hHeld => ?_)
      clear hK K
      (try simp only [Act.put, List.setIfInBounds_toArray, List.set_cons_zero, List.set_cons_succ])
      refine wpAnyH_done (by kernel_rfl) ?_ _
      have HA6 := hide (((HA.out.fut (w' := w6)).put4 (.int .i64 (kindV a)) (.int .i64 (clean a).i) (.bool (clean a).b) (.string (clean a).s)).far4 (r := w.heap.size + 1) (by omega) (.int .i64 (kindV b)) (.int .i64 (clean b).i) (.bool (clean b).b) (.string (clean b).s))
      have HB6 := hide (((HB.out.fut (w' := w6)).far4 (r := w.heap.size) (by omega) (.int .i64 (kindV a)) (.int .i64 (clean a).i) (.bool (clean a).b) (.string (clean a).s)).put4 (.int .i64 (kindV b)) (.int .i64 (clean b).i) (.bool (clean b).b) (.string (clean b).s))
      have HC6 := hide (((HC.out.fut (w' := w6)).far4 (r := w.heap.size) (by omega) (.int .i64 (kindV a)) (.int .i64 (clean a).i) (.bool (clean a).b) (.string (clean a).s)).far4 (r := w.heap.size + 1) (by omega) (.int .i64 (kindV b)) (.int .i64 (clean b).i) (.bool (clean b).b) (.string (clean b).s))
      have hb6 : Below w.heap.size w _ := below4 (below4 (fut w w6) (Nat.le_refl _) (.int .i64 (kindV a)) (.int .i64 (clean a).i) (.bool (clean a).b) (.string (clean a).s)) (Nat.le_add_right w.heap.size 1) (.int .i64 (kindV b)) (.int .i64 (clean b).i) (.bool (clean b).b) (.string (clean b).s)
      obtain ⟨X, hX⟩ : ∃ x : World, x = (((((((w6.setCell ⟨w.heap.size, 0, none⟩ (.int .i64 (kindV a))).setCell ⟨w.heap.size, 1, none⟩ (.int .i64 (clean a).i)).setCell ⟨w.heap.size, 2, none⟩ (.bool (clean a).b)).setCell ⟨w.heap.size, 3, none⟩ (.string (clean a).s)).setCell ⟨w.heap.size + 1, 0, none⟩ (.int .i64 (kindV b))).setCell ⟨w.heap.size + 1, 1, none⟩ (.int .i64 (clean b).i)).setCell ⟨w.heap.size + 1, 2, none⟩ (.bool (clean b).b)).setCell ⟨w.heap.size + 1, 3, none⟩ (.string (clean b).s) := ⟨_, rfl⟩
      rw [← hX] at HA6 HB6 HC6 hb6
      rw [← hX]
      clear hX a0 a1 a2 a3 la fa b0 b1 b2 b3 lb fb
      have hsX : Step w X := ⟨hb6⟩
      obtain ⟨a0, a1, a2, a3⟩ := At.z4 HA6.out.at0
      have la := HA6.out.lt
      obtain ⟨b0, b1, b2, b3⟩ := At.z4 HB6.out.at0
      have lb := HB6.out.lt
      obtain ⟨c0, c1, c2, c3⟩ := At.z4 HC6.out.at0
      have lc := HC6.out.lt
      have fc := HC6.out.free
      by_cases h0 : kindV a = 0
      · have g0 : (kindV a == 0) = true := by rw [h0]; rfl
        have HR : Hid (R.ag = .agg #[.int .i64 (kindV b), .int .i64 (clean b).i, .bool (clean b).b, .string (clean b).s]) := by show _ = _; rw [← HSR.out, selV, if_pos (Or.inl h0), clean_agD]
        clear h0
        go_wp2_with fail
        refine bodyPost_ret (v := .agg #[.int .i64 (kindV b), .int .i64 (clean b).i, .bool (clean b).b, .string (clean b).s]) (by simp [results, Tryz.results182, go_sem, c0, c1, c2, c3]) rfl ?_
        exact ⟨by rw [HR.out], Step.of⟩
      · have g0 : (kindV a == 0) = false := beq_eq_false_iff_ne.2 h0
        by_cases h1 : kindV b = 0
        · have g1 : (kindV b != 0) = false := by rw [h1]; rfl
          have HR : Hid (R.ag = .agg #[.int .i64 (kindV a), .int .i64 (clean a).i, .bool (clean a).b, .string (clean a).s]) := by show _ = _; rw [← HSR.out, selV, if_neg (by rintro (h | h); exact h0 h; exact h.1 h1), clean_agD]
          clear h0 h1
          go_wp2_with fail
          refine bodyPost_ret (v := .agg #[.int .i64 (kindV a), .int .i64 (clean a).i, .bool (clean a).b, .string (clean a).s]) (by simp [results, Tryz.results182, go_sem, c0, c1, c2, c3]) rfl ?_
          exact ⟨by rw [HR.out], Step.of⟩
        · have g1 : (kindV b != 0) = true := bne_iff_ne.2 h1
          cases hp : p (clean b) (clean a) with
          | true =>
            have HR : Hid (R.ag = .agg #[.int .i64 (kindV b), .int .i64 (clean b).i, .bool (clean b).b, .string (clean b).s]) := by show _ = _; rw [← HSR.out, selV, if_pos (Or.inr ⟨h1, hp⟩), clean_agD]
            rw [hp] at LF
            clear h0 h1 hp
            go_wp2_with (refine (LF.out _).mono ?_; rintro e w7 ⟨rfl, hs7⟩; clear a0 a1 a2 a3 la b0 b1 b2 b3 lb c0 c1 c2 c3 lc fc; obtain ⟨a0, a1, a2, a3⟩ := At.z4 (HA6.out.fut (w' := w7)).at0; have la := (HA6.out.fut (w' := w7)).lt; obtain ⟨b0, b1, b2, b3⟩ := At.z4 (HB6.out.fut (w' := w7)).at0; have lb := (HB6.out.fut (w' := w7)).lt; obtain ⟨c0, c1, c2, c3⟩ := At.z4 (HC6.out.fut (w' := w7)).at0; have lc := (HC6.out.fut (w' := w7)).lt; have fc := (HC6.out.fut (w' := w7)).free)
            refine bodyPost_ret (v := .agg #[.int .i64 (kindV b), .int .i64 (clean b).i, .bool (clean b).b, .string (clean b).s]) (by simp [results, Tryz.results182, go_sem, c0, c1, c2, c3]) rfl ?_
            exact ⟨by rw [HR.out], Step.of⟩
          | false =>
            have HR : Hid (R.ag = .agg #[.int .i64 (kindV a), .int .i64 (clean a).i, .bool (clean a).b, .string (clean a).s]) := by show _ = _; rw [← HSR.out, selV, if_neg (by rintro (h | h); exact h0 h; rw [hp] at h; cases h.2), clean_agD]
            rw [hp] at LF
            clear h0 h1 hp
            go_wp2_with (refine (LF.out _).mono ?_; rintro e w7 ⟨rfl, hs7⟩; clear a0 a1 a2 a3 la b0 b1 b2 b3 lb c0 c1 c2 c3 lc fc; obtain ⟨a0, a1, a2, a3⟩ := At.z4 (HA6.out.fut (w' := w7)).at0; have la := (HA6.out.fut (w' := w7)).lt; obtain ⟨b0, b1, b2, b3⟩ := At.z4 (HB6.out.fut (w' := w7)).at0; have lb := (HB6.out.fut (w' := w7)).lt; obtain ⟨c0, c1, c2, c3⟩ := At.z4 (HC6.out.fut (w' := w7)).at0; have lc := (HC6.out.fut (w' := w7)).lt; have fc := (HC6.out.fut (w' := w7)).free)
            refine bodyPost_ret (v := .agg #[.int .i64 (kindV a), .int .i64 (clean a).i, .bool (clean a).b, .string (clean a).s]) (by simp [results, Tryz.results182, go_sem, c0, c1, c2, c3]) rfl ?_
            exact ⟨by rw [HR.out], Step.of⟩
    · go_simp
      refine hK.out _ _ (by (try dsimp only); (exact ⟨Step.of, trivial⟩)) (fun hHeld => ?_)
      clear hK K
      (try simp only [Act.put, List.setIfInBounds_toArray, List.set_cons_zero, List.set_cons_succ])
      refine wpAnyH_ready (rs := [1]) (by kernel_rfl) (by simp) ?_
      refine AllReadyH.cons (o := ⟨some 8, _, _, _, _, _⟩) rfl (fun K hK => ?_) AllReadyH.nil
      obtain ⟨hS1, hS2⟩ := hHeld
      go_simp
      (go_at_call 109; (with_reducible refine (PA.out _).mono ?_); rintro e w5 ⟨rfl, hs5⟩; clear a0 a1 a2 a3 la fa b0 b1 b2 b3 lb fb; obtain ⟨a0, a1, a2, a3⟩ := At.z4 (HA.out.fut (w' := w5)).at0; have la := (HA.out.fut (w' := w5)).lt; have fa := (HA.out.fut (w' := w5)).free; obtain ⟨b0, b1, b2, b3⟩ := At.z4 (HB.out.fut (w' := w5)).at0; have lb := (HB.out.fut (w' := w5)).lt; have fb := (HB.out.fut (w' := w5)).free)
      refine hK.out _ _ (by (try dsimp only); (exact ⟨Step.of, trivial⟩)) (fun hHeld => ?_)
      clear hK K
      (try simp only [Act.put, List.setIfInBounds_toArray, List.set_cons_zero, List.set_cons_succ])
      refine wpAnyH_ready (rs := [3]) (by kernel_rfl) (by simp) ?_
      refine AllReadyH.cons (o := ⟨some 10, _, _, _, _, _⟩) rfl (fun K hK => ?_) AllReadyH.nil
      obtain ⟨hS1, hS2⟩ := hHeld
      go_simp
      (go_at_call 109; (with_reducible refine (PB.out _).mono ?_); rintro e w6 ⟨rfl, hs6⟩; clear a0 a1 a2 a3 la fa b0 b1 b2 b3 lb fb; obtain ⟨a0, a1, a2, a3⟩ := At.z4 (HA.out.fut (w' := w6)).at0; have la := (HA.out.fut (w' := w6)).lt; have fa := (HA.out.fut (w' := w6)).free; obtain ⟨b0, b1, b2, b3⟩ := At.z4 (HB.out.fut (w' := w6)).at0; have lb := (HB.out.fut (w' := w6)).lt; have fb := (HB.out.fut (w' := w6)).free)
      refine hK.out _ _ (by (try dsimp only); (exact ⟨Step.of, trivial⟩)) (fun hHeld => ?_)
      clear hK K
      (try simp only [Act.put, List.setIfInBounds_toArray, List.set_cons_zero, List.set_cons_succ])
      refine wpAnyH_ready (rs := [4]) (by kernel_rfl) (by simp) ?_
      refine AllReadyH.cons (o := ⟨none, _, _, _, _, _⟩) rfl (fun K hK => ?_) AllReadyH.nil
      go_simp
      refine hK.out _ _ (by (try dsimp only); (exact ⟨Step.of, trivial⟩)) (fun hHeld => ?_)
      clear hK K
      (try simp only [Act.put, List.setIfInBounds_toArray, List.set_cons_zero, List.set_cons_succ])
      refine wpAnyH_ready (rs := [5]) (by kernel_rfl) (by simp) ?_
      refine AllReadyH.cons (o := ⟨none, _, _, _, _, _⟩) rfl (fun K hK => ?_) AllReadyH.nil
      go_simp
      refine hK.out _ _ (by (try dsimp only); (exact ⟨Step.of, trivial⟩)) (fun hHeld => ?_)
      clear hK K
      (try simp only [Act.put, List.setIfInBounds_toArray, List.set_cons_zero, List.set_cons_succ])
      refine wpAnyH_done (by kernel_rfl) ?_ _
      have HA6 := hide (((HA.out.fut (w' := w6)).put4 (.int .i64 (kindV a)) (.int .i64 (clean a).i) (.bool (clean a).b) (.string (clean a).s)).far4 (r := w.heap.size + 1) (by omega) (.int .i64 (kindV b)) (.int .i64 (clean b).i) (.bool (clean b).b) (.string (clean b).s))
      have HB6 := hide (((HB.out.fut (w' := w6)).far4 (r := w.heap.size) (by omega) (.int .i64 (kindV a)) (.int .i64 (clean a).i) (.bool (clean a).b) (.string (clean a).s)).put4 (.int .i64 (kindV b)) (.int .i64 (clean b).i) (.bool (clean b).b) (.string (clean b).s))
      have HC6 := hide (((HC.out.fut (w' := w6)).far4 (r := w.heap.size) (by omega) (.int .i64 (kindV a)) (.int .i64 (clean a).i) (.bool (clean a).b) (.string (clean a).s)).far4 (r := w.heap.size + 1) (by omega) (.int .i64 (kindV b)) (.int .i64 (clean b).i) (.bool (clean b).b) (.string (clean b).s))
      have hb6 : Below w.heap.size w _ := below4 (below4 (fut w w6) (Nat.le_refl _) (.int .i64 (kindV a)) (.int .i64 (clean a).i) (.bool (clean a).b) (.string (clean a).s)) (Nat.le_add_right w.heap.size 1) (.int .i64 (kindV b)) (.int .i64 (clean b).i) (.bool (clean b).b) (.string (clean b).s)
      obtain ⟨X, hX⟩ : ∃ x : World, x = (((((((w6.setCell ⟨w.heap.size, 0, none⟩ (.int .i64 (kindV a))).setCell ⟨w.heap.size, 1, none⟩ (.int .i64 (clean a).i)).setCell ⟨w.heap.size, 2, none⟩ (.bool (clean a).b)).setCell ⟨w.heap.size, 3, none⟩ (.string (clean a).s)).setCell ⟨w.heap.size + 1, 0, none⟩ (.int .i64 (kindV b))).setCell ⟨w.heap.size + 1, 1, none⟩ (.int .i64 (clean b).i)).setCell ⟨w.heap.size + 1, 2, none⟩ (.bool (clean b).b)).setCell ⟨w.heap.size + 1, 3, none⟩ (.string (clean b).s) := ⟨_, rfl⟩
      rw [← hX] at HA6 HB6 HC6 hb6
      rw [← hX]
      clear hX a0 a1 a2 a3 la fa b0 b1 b2 b3 lb fb
      have hsX : Step w X := ⟨hb6⟩
      obtain ⟨a0, a1, a2, a3⟩ := At.z4 HA6.out.at0
      have la := HA6.out.lt
      obtain ⟨b0, b1, b2, b3⟩ := At.z4 HB6.out.at0
      have lb := HB6.out.lt
      obtain ⟨c0, c1, c2, c3⟩ := At.z4 HC6.out.at0
      have lc := HC6.out.lt
      have fc := HC6.out.free
      by_cases h0 : kindV a = 0
      · have g0 : (kindV a == 0) = true := by rw [h0]; rfl
        have HR : Hid (R.ag = .agg #[.int .i64 (kindV b), .int .i64 (clean b).i, .bool (clean b).b, .string (clean b).s]) := by show _ = _; rw [← HSR.out, selV, if_pos (Or.inl h0), clean_agD]
        clear h0
        go_wp2_with fail
        refine bodyPost_ret (v := .agg #[.int .i64 (kindV b), .int .i64 (clean b).i, .bool (clean b).b, .string (clean b).s]) (by simp [results, Tryz.results182, go_sem, c0, c1, c2, c3]) rfl ?_
        exact ⟨by rw [HR.out], Step.of⟩
      · have g0 : (kindV a == 0) = false := beq_eq_false_iff_ne.2 h0
        by_cases h1 : kindV b = 0
        · have g1 : (kindV b != 0) = false := by rw [h1]; rfl
          have HR : Hid (R.ag = .agg #[.int .i64 (kindV a), .int .i64 (clean a).i, .bool (clean a).b, .string (clean a).s]) := by show _ = _; rw [← HSR.out, selV, if_neg (by rintro (h | h); exact h0 h; exact h.1 h1), clean_agD]
          clear h0 h1
          go_wp2_with fail
          refine bodyPost_ret (v := .agg #[.int .i64 (kindV a), .int .i64 (clean a).i, .bool (clean a).b, .string (clean a).s]) (by simp [results, Tryz.results182, go_sem, c0, c1, c2, c3]) rfl ?_
          exact ⟨by rw [HR.out], Step.of⟩
        · have g1 : (kindV b != 0) = true := bne_iff_ne.2 h1
          cases hp : p (clean b) (clean a) with
          | true =>
            have HR : Hid (R.ag = .agg #[.int .i64 (kindV b), .int .i64 (clean b).i, .bool (clean b).b, .string (clean b).s]) := by show _ = _; rw [← HSR.out, selV, if_pos (Or.inr ⟨h1, hp⟩), clean_agD]
            rw [hp] at LF
            clear h0 h1 hp
            go_wp2_with (refine (LF.out _).mono ?_; rintro e w7 ⟨rfl, hs7⟩; clear a0 a1 a2 a3 la b0 b1 b2 b3 lb c0 c1 c2 c3 lc fc; obtain ⟨a0, a1, a2, a3⟩ := At.z4 (HA6.out.fut (w' := w7)).at0; have la := (HA6.out.fut (w' := w7)).lt; obtain ⟨b0, b1, b2, b3⟩ := At.z4 (HB6.out.fut (w' := w7)).at0; have lb := (HB6.out.fut (w' := w7)).lt; obtain ⟨c0, c1, c2, c3⟩ := At.z4 (HC6.out.fut (w' := w7)).at0; have lc := (HC6.out.fut (w' := w7)).lt; have fc := (HC6.out.fut (w' := w7)).free)
            refine bodyPost_ret (v := .agg #[.int .i64 (kindV b), .int .i64 (clean b).i, .bool (clean b).b, .string (clean b).s]) (by simp [results, Tryz.results182, go_sem, c0, c1, c2, c3]) rfl ?_
            exact ⟨by rw [HR.out], Step.of⟩
          | false =>
            have HR : Hid (R.ag = .agg #[.int .i64 (kindV a), .int .i64 (clean a).i, .bool (clean a).b, .string (clean a).s]) := by show _ = _; rw [← HSR.out, selV, if_neg (by rintro (h | h); exact h0 h; rw [hp] at h; cases h.2), clean_agD]
            rw [hp] at LF
            clear h0 h1 hp
            go_wp2_with (refine (LF.out _).mono ?_; rintro e w7 ⟨rfl, hs7⟩; clear a0 a1 a2 a3 la b0 b1 b2 b3 lb c0 c1 c2 c3 lc fc; obtain ⟨a0, a1, a2, a3⟩ := At.z4 (HA6.out.fut (w' := w7)).at0; have la := (HA6.out.fut (w' := w7)).lt; obtain ⟨b0, b1, b2, b3⟩ := At.z4 (HB6.out.fut (w' := w7)).at0; have lb := (HB6.out.fut (w' := w7)).lt; obtain ⟨c0, c1, c2, c3⟩ := At.z4 (HC6.out.fut (w' := w7)).at0; have lc := (HC6.out.fut (w' := w7)).lt; have fc := (HC6.out.fut (w' := w7)).free)
            refine bodyPost_ret (v := .agg #[.int .i64 (kindV a), .int .i64 (clean a).i, .bool (clean a).b, .string (clean a).s]) (by simp [results, Tryz.results182, go_sem, c0, c1, c2, c3]) rfl ?_
            exact ⟨by rw [HR.out], Step.of⟩
  · go_simp
    refine hK.out _ _ (by (try dsimp only); (exact ⟨Step.of, trivial⟩)) (fun hHeld => ?_)
    clear hK K
    (try simp only [Act.put, List.setIfInBounds_toArray, List.set_cons_zero, List.set_cons_succ])
    refine wpAnyH_ready (rs := [0]) (by kernel_rfl) (by simp) ?_
    refine AllReadyH.cons (o := ⟨some 7, _, _, _, _, _⟩) rfl (fun K hK => ?_) AllReadyH.nil
    go_simp
    refine hK.out _ _ (by (try dsimp only); (exact ⟨Step.of, trivial⟩)) (fun hHeld => ?_)
    clear hK K
    (try simp only [Act.put, List.setIfInBounds_toArray, List.set_cons_zero, List.set_cons_succ])
    refine wpAnyH_ready (rs := [1]) (by kernel_rfl) (by simp) ?_
    refine AllReadyH.cons (o := ⟨some 8, _, _, _, _, _⟩) rfl (fun K hK => ?_) AllReadyH.nil
    obtain ⟨hS1, hS2⟩ := hHeld
    go_simp
    (go_at_call 109; (with_reducible refine (PA.out _).mono ?_); rintro e w5 ⟨rfl, hs5⟩; clear a0 a1 a2 a3 la fa b0 b1 b2 b3 lb fb; obtain ⟨a0, a1, a2, a3⟩ := At.z4 (HA.out.fut (w' := w5)).at0; have la := (HA.out.fut (w' := w5)).lt; have fa := (HA.out.fut (w' := w5)).free; obtain ⟨b0, b1, b2, b3⟩ := At.z4 (HB.out.fut (w' := w5)).at0; have lb := (HB.out.fut (w' := w5)).lt; have fb := (HB.out.fut (w' := w5)).free)
    refine hK.out _ _ (by (try dsimp only); (exact ⟨Step.of, trivial⟩)) (fun hHeld => ?_)
    clear hK K
    (try simp only [Act.put, List.setIfInBounds_toArray, List.set_cons_zero, List.set_cons_succ])
    refine wpAnyH_ready (rs := [3]) (by kernel_rfl) (by simp) ?_
    refine AllReadyH.cons (o := ⟨some 10, _, _, _, _, _⟩) rfl (fun K hK => ?_) AllReadyH.nil
    obtain ⟨hS1, hS2⟩ := hHeld
    go_simp
    (go_at_call 109; (with_reducible refine (PB.out _).mono ?_); rintro e w6 ⟨rfl, hs6⟩; clear a0 a1 a2 a3 la fa b0 b1 b2 b3 lb fb; obtain ⟨a0, a1, a2, a3⟩ := At.z4 (HA.out.fut (w' := w6)).at0; have la := (HA.out.fut (w' := w6)).lt; have fa := (HA.out.fut (w' := w6)).free; obtain ⟨b0, b1, b2, b3⟩ := At.z4 (HB.out.fut (w' := w6)).at0; have lb := (HB.out.fut (w' := w6)).lt; have fb := (HB.out.fut (w' := w6)).free)
    refine hK.out _ _ (by (try dsimp only); (exact ⟨Step.of, trivial⟩)) (fun hHeld => ?_)
    clear hK K
    (try simp only [Act.put, List.setIfInBounds_toArray, List.set_cons_zero, List.set_cons_succ])
    refine wpAnyH_ready (rs := [4]) (by kernel_rfl) (by simp) ?_
    refine AllReadyH.cons (o := ⟨none, _, _, _, _, _⟩) rfl (fun K hK => ?_) AllReadyH.nil
    go_simp
    refine hK.out _ _ (by (try dsimp only); (exact ⟨Step.of, trivial⟩)) (fun hHeld => ?_)
    clear hK K
    (try simp only [Act.put, List.setIfInBounds_toArray, List.set_cons_zero, List.set_cons_succ])
    refine wpAnyH_ready (rs := [5]) (by kernel_rfl) (by simp) ?_
    refine AllReadyH.cons (o := ⟨none, _, _, _, _, _⟩) rfl (fun K hK => ?_) AllReadyH.nil
    go_simp
    refine hK.out _ _ (by (try dsimp only); (exact ⟨Step.of, trivial⟩)) (fun hHeld => ?_)
    clear hK K
    (try simp only [Act.put, List.setIfInBounds_toArray, List.set_cons_zero, List.set_cons_succ])
    refine wpAnyH_done (by kernel_rfl) ?_ _
    have HA6 := hide (((HA.out.fut (w' := w6)).put4 (.int .i64 (kindV a)) (.int .i64 (clean a).i) (.bool (clean a).b) (.string (clean a).s)).far4 (r := w.heap.size + 1) (by omega) (.int .i64 (kindV b)) (.int .i64 (clean b).i) (.bool (clean b).b) (.string (clean b).s))
    have HB6 := hide (((HB.out.fut (w' := w6)).far4 (r := w.heap.size) (by omega) (.int .i64 (kindV a)) (.int .i64 (clean a).i) (.bool (clean a).b) (.string (clean a).s)).put4 (.int .i64 (kindV b)) (.int .i64 (clean b).i) (.bool (clean b).b) (.string (clean b).s))
    have HC6 := hide (((HC.out.fut (w' := w6)).far4 (r := w.heap.size) (by omega) (.int .i64 (kindV a)) (.int .i64 (clean a).i) (.bool (clean a).b) (.string (clean a).s)).far4 (r := w.heap.size + 1) (by omega) (.int .i64 (kindV b)) (.int .i64 (clean b).i) (.bool (clean b).b) (.string (clean b).s))
    have hb6 : Below w.heap.size w _ := below4 (below4 (fut w w6) (Nat.le_refl _) (.int .i64 (kindV a)) (.int .i64 (clean a).i) (.bool (clean a).b) (.string (clean a).s)) (Nat.le_add_right w.heap.size 1) (.int .i64 (kindV b)) (.int .i64 (clean b).i) (.bool (clean b).b) (.string (clean b).s)
    obtain ⟨X, hX⟩ : ∃ x : World, x = (((((((w6.setCell ⟨w.heap.size, 0, none⟩ (.int .i64 (kindV a))).setCell ⟨w.heap.size, 1, none⟩ (.int .i64 (clean a).i)).setCell ⟨w.heap.size, 2, none⟩ (.bool (clean a).b)).setCell ⟨w.heap.size, 3, none⟩ (.string (clean a).s)).setCell ⟨w.heap.size + 1, 0, none⟩ (.int .i64 (kindV b))).setCell ⟨w.heap.size + 1, 1, none⟩ (.int .i64 (clean b).i)).setCell ⟨w.heap.size + 1, 2, none⟩ (.bool (clean b).b)).setCell ⟨w.heap.size + 1, 3, none⟩ (.string (clean b).s) := ⟨_, rfl⟩
    rw [← hX] at HA6 HB6 HC6 hb6
    rw [← hX]
    clear hX a0 a1 a2 a3 la fa b0 b1 b2 b3 lb fb
    have hsX : Step w X := ⟨hb6⟩
    obtain ⟨a0, a1, a2, a3⟩ := At.z4 HA6.out.at0
    have la := HA6.out.lt
    obtain ⟨b0, b1, b2, b3⟩ := At.z4 HB6.out.at0
    have lb := HB6.out.lt
    obtain ⟨c0, c1, c2, c3⟩ := At.z4 HC6.out.at0
    have lc := HC6.out.lt
    have fc := HC6.out.free
    by_cases h0 : kindV a = 0
    · have g0 : (kindV a == 0) = true := by rw [h0]; rfl
      have HR : Hid (R.ag = .agg #[.int .i64 (kindV b), .int .i64 (clean b).i, .bool (clean b).b, .string (clean b).s]) := by show _ = _; rw [← HSR.out, selV, if_pos (Or.inl h0), clean_agD]
      clear h0
      go_wp2_with fail
      refine bodyPost_ret (v := .agg #[.int .i64 (kindV b), .int .i64 (clean b).i, .bool (clean b).b, .string (clean b).s]) (by simp [results, Tryz.results182, go_sem, c0, c1, c2, c3]) rfl ?_
      exact ⟨by rw [HR.out], Step.of⟩
    · have g0 : (kindV a == 0) = false := beq_eq_false_iff_ne.2 h0
      by_cases h1 : kindV b = 0
      · have g1 : (kindV b != 0) = false := by rw [h1]; rfl
        have HR : Hid (R.ag = .agg #[.int .i64 (kindV a), .int .i64 (clean a).i, .bool (clean a).b, .string (clean a).s]) := by show _ = _; rw [← HSR.out, selV, if_neg (by rintro (h | h); exact h0 h; exact h.1 h1), clean_agD]
        clear h0 h1
        go_wp2_with fail
        refine bodyPost_ret (v := .agg #[.int .i64 (kindV a), .int .i64 (clean a).i, .bool (clean a).b, .string (clean a).s]) (by simp [results, Tryz.results182, go_sem, c0, c1, c2, c3]) rfl ?_
        exact ⟨by rw [HR.out], Step.of⟩
      · have g1 : (kindV b != 0) = true := bne_iff_ne.2 h1
        cases hp : p (clean b) (clean a) with
        | true =>
          have HR : Hid (R.ag = .agg #[.int .i64 (kindV b), .int .i64 (clean b).i, .bool (clean b).b, .string (clean b).s]) := by show _ = _; rw [← HSR.out, selV, if_pos (Or.inr ⟨h1, hp⟩), clean_agD]
          rw [hp] at LF
          clear h0 h1 hp
          go_wp2_with (refine (LF.out _).mono ?_; rintro e w7 ⟨rfl, hs7⟩; clear a0 a1 a2 a3 la b0 b1 b2 b3 lb c0 c1 c2 c3 lc fc; obtain ⟨a0, a1, a2, a3⟩ := At.z4 (HA6.out.fut (w' := w7)).at0; have la := (HA6.out.fut (w' := w7)).lt; obtain ⟨b0, b1, b2, b3⟩ := At.z4 (HB6.out.fut (w' := w7)).at0; have lb := (HB6.out.fut (w' := w7)).lt; obtain ⟨c0, c1, c2, c3⟩ := At.z4 (HC6.out.fut (w' := w7)).at0; have lc := (HC6.out.fut (w' := w7)).lt; have fc := (HC6.out.fut (w' := w7)).free)
          refine bodyPost_ret (v := .agg #[.int .i64 (kindV b), .int .i64 (clean b).i, .bool (clean b).b, .string (clean b).s]) (by simp [results, Tryz.results182, go_sem, c0, c1, c2, c3]) rfl ?_
          exact ⟨by rw [HR.out], Step.of⟩
        | false =>
          have HR : Hid (R.ag = .agg #[.int .i64 (kindV a), .int .i64 (clean a).i, .bool (clean a).b, .string (clean a).s]) := by show _ = _; rw [← HSR.out, selV, if_neg (by rintro (h | h); exact h0 h; rw [hp] at h; cases h.2), clean_agD]
          rw [hp] at LF
          clear h0 h1 hp
          go_wp2_with (refine (LF.out _).mono ?_; rintro e w7 ⟨rfl, hs7⟩; clear a0 a1 a2 a3 la b0 b1 b2 b3 lb c0 c1 c2 c3 lc fc; obtain ⟨a0, a1, a2, a3⟩ := At.z4 (HA6.out.fut (w' := w7)).at0; have la := (HA6.out.fut (w' := w7)).lt; obtain ⟨b0, b1, b2, b3⟩ := At.z4 (HB6.out.fut (w' := w7)).at0; have lb := (HB6.out.fut (w' := w7)).lt; obtain ⟨c0, c1, c2, c3⟩ := At.z4 (HC6.out.fut (w' := w7)).at0; have lc := (HC6.out.fut (w' := w7)).lt; have fc := (HC6.out.fut (w' := w7)).free)
          refine bodyPost_ret (v := .agg #[.int .i64 (kindV a), .int .i64 (clean a).i, .bool (clean a).b, .string (clean a).s]) (by simp [results, Tryz.results182, go_sem, c0, c1, c2, c3]) rfl ?_
          exact ⟨by rw [HR.out], Step.of⟩
theorem more_any (a b : Val) (w : World) : Calls Tryz.prog 184 #[a.val, b.val] w fun e w' => e = .returned (.bool (lessV b a)) ∧ Step w w' := by
  have LV := hide (pless_any b a)
  unfold Val.val at LV ⊢
  go_enter Tryz.func184, Tryz.ntmps184
  go_wp2_with (go_at_call 183; (with_reducible refine (LV.out _).mono ?_); rintro e w3 ⟨rfl, hs3⟩)
  go_ret
  exact ⟨rfl, Step.of⟩
end Go.Proofs.YtnphokhehacfnaaGreatDoor

