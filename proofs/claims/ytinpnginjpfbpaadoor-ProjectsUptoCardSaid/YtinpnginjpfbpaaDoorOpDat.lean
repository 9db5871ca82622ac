/-
  A file's data among a law's arguments.
-/
import Derived.Test.YtinpnginjpfbpaaDoorOpRo
import Derived.Test.YtinpnginjpfbpaaDoorYt
namespace Go.Proofs.YtinpnginjpfbpaaDoor
open Go.ChangeShapes Go.WideShapes Go.ChangeAt Go.RowKit

def DatA.cells (d : DatA) : List Value := [.int .i64 d.rows, .slice d.A d.cols.length d.cap, .slice d.Av d.vals.length d.cv]
set_option maxRecDepth 100000 in
theorem o_dat : Opens Tryd.prog 27 DatA.cells (fun w d => DatIn w d) :=
  (opens_struct Tryd.underlying27 (tot := 3) (by kernel_rfl) (opensF_cons (by rfl) cells_int o_int (opensF_cons (by rfl) (show Tryd.prog.cellsOf 22 = 1 by kernel_rfl) o_cols (opensF_cons (by rfl) (show Tryd.prog.cellsOf 25 = 1 by kernel_rfl) o_rows (opensF_nil (by rfl)))))).map
    (fun p : Int × (Option Addr × Nat × List Col) × (Option Addr × Nat × List RowA) × Unit => (⟨p.1, p.2.1.2.2, p.2.1.1, p.2.1.2.1, p.2.2.1.2.2, p.2.2.1.1, p.2.2.1.2.1⟩ : DatA)) (by intro _; rfl) (by intro w p h; exact ⟨h.2.1.2.2.2.1, h.2.1.1, h.2.1.2.1, Nat.le_trans h.2.1.1 h.2.1.2.2.1, h.2.1.2.2.2.2, h.2.2.1⟩)
end Go.Proofs.YtinpnginjpfbpaaDoor
