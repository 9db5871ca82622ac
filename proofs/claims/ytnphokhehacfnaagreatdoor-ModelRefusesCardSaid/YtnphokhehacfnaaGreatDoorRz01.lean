/-
  Texts put together: Xz.
-/
import Derived.Test.YtnphokhehacfnaaGreatDoorRz90
import Derived.Test.YtnphokhehacfnaaGreatDoorRz91
namespace Go.Proofs.YtnphokhehacfnaaGreatDoor
open Go.RowKit

set_option maxRecDepth 100000 in
set_option maxHeartbeats 16000000 in
theorem readBad_any {w1 : World} (g D T O U : Nat) (t : TbA) (o : OpA) (x0 x1 x2 x3 x4 x5 x6 : Value) (w : World) (h : Doer w g D T O t o) (hu : Blk w U 59 [x0, x1, x2, x3, x4, x5, x6]) (ho : OpIn w1 o) [f1 : Fut w1 w] (hf : TbFine t) (hk : o.kind = 9) (hp : predB o.ns = false) :
    Calls Tryz.prog 75 #[.pointer (some ⟨D, 0, none⟩), .pointer (some ⟨U, 0, none⟩)] w fun e w' => ReadA U w (.error 9) e w' := by
  have z1_ := f1.below.size
  have HD := hide h; have HU := hide hu
  have HSC := hide (h.own.r.tin hf).sch
  have hcl := ho.clen; have hcc := ho.ccap
  have PM := fun (w' : World) [hq : Fut w w'] => haveI := Fut.tr f1 hq; ppred_any o.ns o.An o.cn w' ho.prd
  clear h hu
  obtain ⟨d0, d1⟩ := At.z2 (HD.out.d.fut (w' := w)).at0
  have ld := (HD.out.d.fut (w' := w)).lt
  obtain ⟨t0, t1, t2, t3, t4, t5⟩ := At.z6 (HD.out.tb.fut (w' := w)).at0
  have lt_ := (HD.out.tb.fut (w' := w)).lt
  have ft_ := (HD.out.tb.fut (w' := w)).free
  obtain ⟨o0, o1, o2, o3, o4, o5, o6, o7, o8, o9, o10, o11, o12, o13, o14, o15⟩ := At.zOp (HD.out.op.fut (w' := w)).at0
  have lo := (HD.out.op.fut (w' := w)).lt
  unfold TbA.cells at *
  have hkb : (o.kind != 9) = false := bne_eq_false_iff_eq.2 hk
  rw [hp] at PM
  have PM := hide PM
  clear hp hk
  go_enter Tryz.func75, Tryz.ntmps75
  go_wp2_with (first | (go_at_call 123; (with_reducible refine (PM.out _).mono ?_); rintro e w3 ⟨rfl, hs3⟩; clear d0 d1 ld t0 t1 t2 t3 t4 t5 lt_ ft_ o0 o1 o2 o3 o4 o5 o6 o7 o8 o9 o10 o11 o12 o13 o14 o15 lo; obtain ⟨d0, d1⟩ := At.z2 (HD.out.d.fut (w' := w3)).at0; have ld := (HD.out.d.fut (w' := w3)).lt; obtain ⟨t0, t1, t2, t3, t4, t5⟩ := At.z6 (HD.out.tb.fut (w' := w3)).at0; have lt_ := (HD.out.tb.fut (w' := w3)).lt; have ft_ := (HD.out.tb.fut (w' := w3)).free; obtain ⟨o0, o1, o2, o3, o4, o5, o6, o7, o8, o9, o10, o11, o12, o13, o14, o15⟩ := At.zOp (HD.out.op.fut (w' := w3)).at0; have lo := (HD.out.op.fut (w' := w3)).lt) | (go_at_call 122; (with_reducible refine (throw_yes _ _).mono ?_); rintro e w9 ⟨rfl, h9⟩; obtain rfl := h9.symm))
  exact ⟨rfl, (show _ = _ ∧ Step w _ from ⟨rfl, Step.of⟩)⟩
theorem readBad {w0 w1 : World} (t : TbA) (o : OpA) (w : World) (hin : TbIn w0 t) (ho : OpIn w1 o) [f0 : Fut w0 w] [f1 : Fut w1 w] (hm : tabB t.tb = true) (hk : o.kind = 9) (hp : predB o.ns = false) :
    Calls Tryz.prog 32 #[t.val, .agg #[.int .i64 o.kind, .string o.txn, .slice o.Ac o.cols.length o.cc, .slice o.Ar o.rows.length o.cr, .slice o.An o.ns.length o.cn, .string o.col, .string o.name, .int .i64 o.ck, .int .i64 o.v.kind, .int .i64 o.v.i, .bool o.v.b, .string o.v.s, .slice o.Af o.fs.length o.cf, .int .i64 o.ver, .int .i64 o.time, .int .i64 o.agg]] w fun e w' => e = .returned (ansV 9 Val.zero) ∧ Step w w' :=
  read_err t o w hin hm 9 (by decide) fun g D T O U t' w' hq hd hu he => by
    haveI := Fut.tr f1 hq
    exact readBad_any g D T O U t' o _ _ _ _ _ _ _ w' hd hu ho (of_tbR hin.fine he) hk hp
end Go.Proofs.YtnphokhehacfnaaGreatDoor

