/-
  The law SpecApplies answers true for every input: its walk.
-/
import Derived.Test.YtfojdjmeefglcaaDoorZg
namespace Go.Proofs.YtfojdjmeefglcaaDoor
open Go.RowKit

set_option maxRecDepth 100000 in
set_option maxHeartbeats 8000000 in
theorem applies_any (f : Fld) (v : Val) (w : World) (hv : FineV v) : Calls Tryd.prog 10 #[.agg #[.int .i64 f.source, .int .i64 f.trans, .int .i64 f.param], .agg #[.int .i64 v.kind, .int .i64 v.i, .bool v.b, .string v.s]] w fun e w' => e = .returned (.bool true) ∧ Step w w' := by
  have a1 := fun w' => papply_any f v w' hv.1 hv.2.1 hv.2.2
  have a2 := fun w' => rapply_any f v w' hv.1 hv.2.1 hv.2.2
  generalize applyR f v = T at a1 a2
  obtain ⟨⟨rk, ri, rb, rs⟩, re⟩ := T
  unfold Val.val at a1 a2
  simp only at a1 a2
  have A1 := hide a1; have A2 := hide a2
  clear a1 a2 hv
  obtain ⟨W, hW⟩ : ∃ W, W = (w.alloc (.cells #[.int .i64 f.source, .int .i64 f.trans, .int .i64 f.param] 78)).alloc (.cells #[.int .i64 v.kind, .int .i64 v.i, .bool v.b, .string v.s] 73) := ⟨_, rfl⟩
  have SW : Step w W := by rw [hW]; exact Step.of
  have HFB : Hid (Blk W w.heap.size 78 [.int .i64 f.source, .int .i64 f.trans, .int .i64 f.param]) := by rw [hW]; exact (Blk.new w [.int .i64 f.source, .int .i64 f.trans, .int .i64 f.param] 78).alloc _
  have HVB : Hid (Blk W (w.heap.size + 1) 73 [.int .i64 v.kind, .int .i64 v.i, .bool v.b, .string v.s]) := by rw [hW]; exact Blk.new_at (by simp) [.int .i64 v.kind, .int .i64 v.i, .bool v.b, .string v.s] 73
  have HW := hide hW
  have hzW := SW.size
  have hlW := HVB.out.lt
  clear hW
  go_enter Tryd.func10, Tryd.ntmps10
  go_wp2_with (first
    | (go_at_call 45; (with_reducible refine (A1.out _).mono ?_); rintro e w1 ⟨rfl, hs1⟩; rw [← HW.out] at hs1; have HX1 := hide (Blk.new w1 [.int .i64 rk, .int .i64 ri, .bool rb, .string rs] 73); have h1_ := HFB.out.fut (w' := w1); obtain ⟨f0, f1, f2⟩ := At.z3 h1_.at0; have lf := h1_.lt; have h2_ := HVB.out.fut (w' := w1); obtain ⟨v0, v1, v2, v3⟩ := At.z4 h2_.at0; have lv := h2_.lt; clear h1_ h2_)
    | (go_at_call 46; (with_reducible refine (A2.out _).mono ?_); rintro e w2 ⟨rfl, hs2⟩; have h1_ := HX1.out.fut (w' := w2); obtain ⟨x0, x1, x2, x3⟩ := At.z4 h1_.at0; have lx := h1_.lt; clear h1_ f0 f1 f2 lf v0 v1 v2 v3 lv)
    | (go_at_call 22; refine (num_any _ _).mono ?_; rintro e w' ⟨rfl, rfl⟩)
    | (go_at_call 47; refine (awake13_any _).mono ?_; rintro e w3 ⟨rfl, hs3⟩))
  go_ret
  exact ⟨rfl, Step.of⟩
end Go.Proofs.YtfojdjmeefglcaaDoor
