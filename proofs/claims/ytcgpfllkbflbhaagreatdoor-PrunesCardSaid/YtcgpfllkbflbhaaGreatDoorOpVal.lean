/-
  Values, rows, nodes and predicates among a law's arguments.
-/
import Derived.Test.YtcgpfllkbflbhaaGreatDoorOpSch
import Derived.Test.YtcgpfllkbflbhaaGreatDoorPb
namespace Go.Proofs.YtcgpfllkbflbhaaGreatDoor
open Go.ChangeShapes Go.WideShapes Go.ChangeAt Go.RowKit

theorem cells_bool : Tryz.prog.cellsOf 4 = 1 := by kernel_rfl
theorem cells_val : Tryz.prog.cellsOf 51 = 4 := by kernel_rfl
theorem o_bool : Opens Tryz.prog 4 (fun b : Bool => [.bool b]) (fun _ _ => True) := opens_bool Tryz.underlying4
set_option maxRecDepth 100000 in
theorem o_val : Opens Tryz.prog 51 (fun v : Val => [.int .i64 v.kind, .int .i64 v.i, .bool v.b, .string v.s]) (fun _ v => v.s.size ≤ 9223372036854775807) :=
  (opens_struct Tryz.underlying51 (tot := 4) (by kernel_rfl) (opensF_cons (by rfl) cells_int o_int (opensF_cons (by rfl) cells_int o_int (opensF_cons (by rfl) cells_bool o_bool (opensF_cons (by rfl) cells_str o_str (opensF_nil (by rfl))))))).map
    (fun p : Int × Int × Bool × ByteArray × Unit => (⟨p.1, p.2.1, p.2.2.1, p.2.2.2.1⟩ : Val)) (by intro _; rfl) (by intro w p h; have := h.2.2.2.1.1; simpa [maxLen] using this)
set_option maxRecDepth 100000 in
theorem o_vals : Opens Tryz.prog 32 (fun p : Option Addr × Nat × List Val => [.slice p.1 p.2.2.length p.2.1])
    (fun w p => p.2.2.length ≤ p.2.1 ∧ p.2.1 ≤ 3518437208780 ∧ SlAt w w.heap.size 4 p.1 (p.2.2.map Val.cells) ∧ ∀ v ∈ p.2.2, v.s.size ≤ 9223372036854775807) :=
  (opens_slice Tryz.underlying32 (size := 4) (bytes := 40) (by kernel_rfl) (by decide) (by kernel_rfl) (o_val.map id (c' := Val.cells) (fun _ => rfl) (fun _ _ h => h))).map id (fun _ => rfl) (fun w p h => ⟨h.1, by have := h.2.2.1; simp only [reachBytes] at this; simp only [id]; omega, h.2.2.2.1, h.2.2.2.2⟩)
set_option maxRecDepth 100000 in
theorem o_nod : Opens Tryz.prog 66 Nod.cells (fun _ n => n.col.size ≤ 9223372036854775807 ∧ n.v.s.size ≤ 9223372036854775807) :=
  (opens_struct Tryz.underlying66 (tot := 9) (by kernel_rfl) (opensF_cons (by rfl) cells_int o_int (opensF_cons (by rfl) cells_str o_str (opensF_cons (by rfl) cells_int o_int (opensF_cons (by rfl) cells_val o_val (opensF_cons (by rfl) cells_int o_int (opensF_cons (by rfl) cells_int o_int (opensF_nil (by rfl))))))))).map
    (fun p : Int × ByteArray × Int × Val × Int × Int × Unit => (⟨p.1, p.2.1, p.2.2.1, p.2.2.2.1, p.2.2.2.2.1, p.2.2.2.2.2.1⟩ : Nod)) (by intro _; rfl) (by intro w p h; have := h.2.1.1; exact ⟨by simpa [maxLen] using this, h.2.2.2.1⟩)
set_option maxRecDepth 100000 in
theorem o_nods : Opens Tryz.prog 22 (fun p : Option Addr × Nat × List Nod => [.slice p.1 p.2.2.length p.2.1]) (fun w p => PrIn w p.2.2 p.1 p.2.1) :=
  (opens_slice Tryz.underlying22 (size := 9) (bytes := 88) (by kernel_rfl) (by decide) (by kernel_rfl) o_nod).map id (fun _ => rfl) (fun w p h => by
    have h1 := h.1
    have h2 := h.2.2.1
    simp only [reachBytes] at h2
    exact ⟨h1, by simp only [id]; omega, by simp only [id]; omega, h.2.2.2.1, h.2.2.2.2⟩)
set_option maxRecDepth 100000 in
theorem o_pred : Opens Tryz.prog 24 (fun p : Option Addr × Nat × List Nod => [.slice p.1 p.2.2.length p.2.1]) (fun w p => PrIn w p.2.2 p.1 p.2.1) :=
  (opens_struct Tryz.underlying24 (tot := 1) (by kernel_rfl) (opensF_cons (by rfl) (show Tryz.prog.cellsOf 22 = 1 by kernel_rfl) o_nods (opensF_nil (by rfl)))).map
    (fun p : (Option Addr × Nat × List Nod) × Unit => p.1) (by intro _; rfl) (by intro w p h; exact h.1)
end Go.Proofs.YtcgpfllkbflbhaaGreatDoor
