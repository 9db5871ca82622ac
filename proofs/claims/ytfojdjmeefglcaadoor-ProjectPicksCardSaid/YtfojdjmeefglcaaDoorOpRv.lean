/-
  A row among a law's arguments.
-/
import Derived.Test.YtfojdjmeefglcaaDoorOpV
namespace Go.Proofs.YtfojdjmeefglcaaDoor
open Go.ChangeShapes Go.WideShapes Go.ChangeAt Go.RowKit

set_option maxRecDepth 100000 in
theorem o_rowV : Opens Tryd.prog 70 (fun p : Option Addr × Nat × List Val => [.slice p.1 p.2.2.length p.2.1])
    (fun w p => p.2.2.length ≤ p.2.1 ∧ p.2.1 ≤ 3518437208780 ∧ SlAt w w.heap.size 4 p.1 (p.2.2.map Val.cells) ∧ ∀ v ∈ p.2.2, v.s.size ≤ 9223372036854775807) :=
  (opens_struct Tryd.underlying70 (tot := 1) (by kernel_rfl) (opensF_cons (by rfl) (show Tryd.prog.cellsOf 68 = 1 by kernel_rfl) o_vals (opensF_nil (by rfl)))).map
    (fun p : (Option Addr × Nat × List Val) × Unit => p.1) (by intro _; rfl) (by intro w p h; exact h.1)
end Go.Proofs.YtfojdjmeefglcaaDoor
