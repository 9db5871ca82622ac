/-
  Values, rows, nodes and predicates among a law's arguments.
-/
import Derived.Test.YtafgfehjdbomfaaDoorOpV
import Derived.Test.YtafgfehjdbomfaaDoorPb
namespace Go.Proofs.YtafgfehjdbomfaaDoor
open Go.ChangeShapes Go.WideShapes Go.ChangeAt Go.RowKit

set_option maxRecDepth 100000 in
theorem o_nod : Opens Tryd.prog 59 Nod.cells (fun _ n => n.col.size ≤ 9223372036854775807 ∧ n.v.s.size ≤ 9223372036854775807) :=
  (opens_struct Tryd.underlying59 (tot := 9) (by kernel_rfl) (opensF_cons (by rfl) cells_int o_int (opensF_cons (by rfl) cells_str o_str (opensF_cons (by rfl) cells_int o_int (opensF_cons (by rfl) cells_val o_val (opensF_cons (by rfl) cells_int o_int (opensF_cons (by rfl) cells_int o_int (opensF_nil (by rfl))))))))).map
    (fun p : Int × ByteArray × Int × Val × Int × Int × Unit => (⟨p.1, p.2.1, p.2.2.1, p.2.2.2.1, p.2.2.2.2.1, p.2.2.2.2.2.1⟩ : Nod)) (by intro _; rfl) (by intro w p h; have := h.2.1.1; exact ⟨by simpa [maxLen] using this, h.2.2.2.1⟩)
set_option maxRecDepth 100000 in
theorem o_nods : Opens Tryd.prog 22 (fun p : Option Addr × Nat × List Nod => [.slice p.1 p.2.2.length p.2.1]) (fun w p => PrIn w p.2.2 p.1 p.2.1) :=
  (opens_slice Tryd.underlying22 (size := 9) (bytes := 88) (by kernel_rfl) (by decide) (by kernel_rfl) o_nod).map id (fun _ => rfl) (fun w p h => by
    have h1 := h.1
    have h2 := h.2.2.1
    simp only [reachBytes] at h2
    exact ⟨h1, by simp only [id]; omega, by simp only [id]; omega, h.2.2.2.1, h.2.2.2.2⟩)
set_option maxRecDepth 100000 in
theorem o_pred : Opens Tryd.prog 24 (fun p : Option Addr × Nat × List Nod => [.slice p.1 p.2.2.length p.2.1]) (fun w p => PrIn w p.2.2 p.1 p.2.1) :=
  (opens_struct Tryd.underlying24 (tot := 1) (by kernel_rfl) (opensF_cons (by rfl) (show Tryd.prog.cellsOf 22 = 1 by kernel_rfl) o_nods (opensF_nil (by rfl)))).map
    (fun p : (Option Addr × Nat × List Nod) × Unit => p.1) (by intro _; rfl) (by intro w p h; exact h.1)
end Go.Proofs.YtafgfehjdbomfaaDoor
