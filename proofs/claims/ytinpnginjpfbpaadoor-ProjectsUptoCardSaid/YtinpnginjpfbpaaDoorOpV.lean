/-
  Values among a law's arguments.
-/
import Derived.Test.YtinpnginjpfbpaaDoorOpSch
import Derived.Test.YtinpnginjpfbpaaDoorPrP
namespace Go.Proofs.YtinpnginjpfbpaaDoor
open Go.ChangeShapes Go.WideShapes Go.ChangeAt Go.RowKit

theorem cells_bool : Tryd.prog.cellsOf 4 = 1 := by kernel_rfl
theorem cells_val : Tryd.prog.cellsOf 57 = 4 := by kernel_rfl
theorem o_bool : Opens Tryd.prog 4 (fun b : Bool => [.bool b]) (fun _ _ => True) := opens_bool Tryd.underlying4
set_option maxRecDepth 100000 in
theorem o_val : Opens Tryd.prog 57 (fun v : Val => [.int .i64 v.kind, .int .i64 v.i, .bool v.b, .string v.s]) (fun _ v => v.s.size ≤ 9223372036854775807) :=
  (opens_struct Tryd.underlying57 (tot := 4) (by kernel_rfl) (opensF_cons (by rfl) cells_int o_int (opensF_cons (by rfl) cells_int o_int (opensF_cons (by rfl) cells_bool o_bool (opensF_cons (by rfl) cells_str o_str (opensF_nil (by rfl))))))).map
    (fun p : Int × Int × Bool × ByteArray × Unit => (⟨p.1, p.2.1, p.2.2.1, p.2.2.2.1⟩ : Val)) (by intro _; rfl) (by intro w p h; have := h.2.2.2.1.1; simpa [maxLen] using this)
set_option maxRecDepth 100000 in
theorem o_vals : Opens Tryd.prog 45 (fun p : Option Addr × Nat × List Val => [.slice p.1 p.2.2.length p.2.1])
    (fun w p => p.2.2.length ≤ p.2.1 ∧ p.2.1 ≤ 3518437208780 ∧ SlAt w w.heap.size 4 p.1 (p.2.2.map Val.cells) ∧ ∀ v ∈ p.2.2, v.s.size ≤ 9223372036854775807) :=
  (opens_slice Tryd.underlying45 (size := 4) (bytes := 40) (by kernel_rfl) (by decide) (by kernel_rfl) (o_val.map id (c' := Val.cells) (fun _ => rfl) (fun _ _ h => h))).map id (fun _ => rfl) (fun w p h => ⟨h.1, by have := h.2.2.1; simp only [reachBytes] at this; simp only [id]; omega, h.2.2.2.1, h.2.2.2.2⟩)

set_option maxRecDepth 100000 in
theorem o_rowV : Opens Tryd.prog 48 (fun p : Option Addr × Nat × List Val => [.slice p.1 p.2.2.length p.2.1])
    (fun w p => p.2.2.length ≤ p.2.1 ∧ p.2.1 ≤ 3518437208780 ∧ SlAt w w.heap.size 4 p.1 (p.2.2.map Val.cells) ∧ ∀ v ∈ p.2.2, v.s.size ≤ 9223372036854775807) :=
  (opens_struct Tryd.underlying48 (tot := 1) (by kernel_rfl) (opensF_cons (by rfl) (show Tryd.prog.cellsOf 45 = 1 by kernel_rfl) o_vals (opensF_nil (by rfl)))).map
    (fun p : (Option Addr × Nat × List Val) × Unit => p.1) (by intro _; rfl) (by intro w p h; exact h.1)
end Go.Proofs.YtinpnginjpfbpaaDoor
