/-
  Statistics and specs among a law's arguments.
-/
import Derived.Test.YtcgpfllkbflbhaaGreatDoorOpVal
import Derived.Test.YtcgpfllkbflbhaaGreatDoorTe
namespace Go.Proofs.YtcgpfllkbflbhaaGreatDoor
open Go.ChangeShapes Go.WideShapes Go.ChangeAt Go.RowKit

set_option maxRecDepth 100000 in
theorem o_stat : Opens Tryz.prog 53 Sta.cells (fun _ t => t.mn.s.size ≤ 9223372036854775807 ∧ t.mx.s.size ≤ 9223372036854775807) :=
  (opens_struct Tryz.underlying53 (tot := 10) (by kernel_rfl) (opensF_cons (by rfl) cells_int o_int (opensF_cons (by rfl) cells_int o_int (opensF_cons (by rfl) cells_val o_val (opensF_cons (by rfl) cells_val o_val (opensF_nil (by rfl))))))).map
    (fun p : Int × Int × Val × Val × Unit => (⟨p.1, p.2.1, p.2.2.1, p.2.2.2.1⟩ : Sta)) (by intro _; rfl) (by intro w p h; exact ⟨h.2.2.1, h.2.2.2.1⟩)
set_option maxRecDepth 100000 in
theorem o_stats : Opens Tryz.prog 28 (fun p : Option Addr × Nat × List Sta => [.slice p.1 p.2.2.length p.2.1])
    (fun w p => p.2.2.length ≤ p.2.1 ∧ p.2.1 ≤ 1466015503658 ∧ SlAt w w.heap.size 10 p.1 (p.2.2.map Sta.cells) ∧ ∀ t ∈ p.2.2, t.mn.s.size ≤ 9223372036854775807 ∧ t.mx.s.size ≤ 9223372036854775807) :=
  (opens_slice Tryz.underlying28 (size := 10) (bytes := 96) (by kernel_rfl) (by decide) (by kernel_rfl) o_stat).map id (fun _ => rfl) (fun w p h => ⟨h.1, by have := h.2.2.1; simp only [reachBytes] at this; simp only [id]; omega, h.2.2.2.1, h.2.2.2.2⟩)
set_option maxRecDepth 100000 in
theorem o_fld : Opens Tryz.prog 78 Fld.cells (fun _ _ => True) :=
  (opens_struct Tryz.underlying78 (tot := 3) (by kernel_rfl) (opensF_cons (by rfl) cells_int o_int (opensF_cons (by rfl) cells_int o_int (opensF_cons (by rfl) cells_int o_int (opensF_nil (by rfl)))))).map
    (fun p : Int × Int × Int × Unit => (⟨p.1, p.2.1, p.2.2.1⟩ : Fld)) (by intro _; rfl) (by intro w p h; trivial)
set_option maxRecDepth 100000 in
theorem o_flds : Opens Tryz.prog 29 (fun p : Option Addr × Nat × List Fld => [.slice p.1 p.2.2.length p.2.1]) (fun w p => FsIn w p.2.2 p.1 p.2.1) :=
  (opens_slice Tryz.underlying29 (size := 3) (bytes := 24) (by kernel_rfl) (by decide) (by kernel_rfl) o_fld).map id (fun _ => rfl) (fun w p h => by
    have h1 := h.1
    have h2 := h.2.2.1
    simp only [reachBytes] at h2
    exact ⟨h1, by simp only [id]; omega, by simp only [id]; omega, h.2.2.2.1⟩)
set_option maxRecDepth 100000 in
theorem o_spec : Opens Tryz.prog 31 (fun p : Int × Option Addr × Nat × List Fld => [.int .i64 p.1, .slice p.2.1 p.2.2.2.length p.2.2.1]) (fun w p => FsIn w p.2.2.2 p.2.1 p.2.2.1) :=
  (opens_struct Tryz.underlying31 (tot := 2) (by kernel_rfl) (opensF_cons (by rfl) cells_int o_int (opensF_cons (by rfl) (show Tryz.prog.cellsOf 29 = 1 by kernel_rfl) o_flds (opensF_nil (by rfl))))).map
    (fun p : Int × (Option Addr × Nat × List Fld) × Unit => (p.1, p.2.1)) (by intro _; rfl) (by intro w p h; exact h.2.1)
end Go.Proofs.YtcgpfllkbflbhaaGreatDoor
