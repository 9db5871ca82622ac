/-
  Rows among a law's arguments.
-/
import Derived.Test.YtinpnginjpfbpaaDoorOpV
import Derived.Test.YtinpnginjpfbpaaDoorRo
namespace Go.Proofs.YtinpnginjpfbpaaDoor
open Go.ChangeShapes Go.WideShapes Go.ChangeAt Go.RowKit

set_option maxRecDepth 100000 in
theorem o_rowA : Opens Tryd.prog 48 RowA.cells (fun w r => RowIn w r) :=
  o_rowV.map (fun p : Option Addr × Nat × List Val => (⟨p.1, p.2.1, p.2.2⟩ : RowA)) (by intro _; rfl) (by intro w p h; exact ⟨h.1, Nat.le_trans h.1 h.2.1, Nat.le_trans h.2.1 (by decide), h.2.2.1, h.2.2.2⟩)
set_option maxRecDepth 100000 in
theorem o_rows : Opens Tryd.prog 25 (fun p : Option Addr × Nat × List RowA => [.slice p.1 p.2.2.length p.2.1]) (fun w p => RowsIn w p.2.2 p.1 p.2.1) :=
  (opens_slice Tryd.underlying25 (size := 1) (bytes := 24) (by kernel_rfl) (by decide) (by kernel_rfl) o_rowA).map id (fun _ => rfl) (fun w p h => by
    have h1 := h.1
    have h2 := h.2.2.1
    simp only [reachBytes] at h2
    exact ⟨h1, by simp only [id]; omega, by simp only [id]; omega, h.2.2.2.1, h.2.2.2.2⟩)
set_option maxRecDepth 100000 in
theorem o_rowsS : Opens Tryd.prog 25 (fun p : Option Addr × Nat × List RowA => [.slice p.1 p.2.2.length p.2.1]) (fun w p => RowsIn w p.2.2 p.1 p.2.1 ∧ p.2.2.length ≤ 5864062014634) :=
  (opens_slice Tryd.underlying25 (size := 1) (bytes := 24) (by kernel_rfl) (by decide) (by kernel_rfl) o_rowA).map id (fun _ => rfl) (fun w p h => by
    have h1 := h.1
    have h2 := h.2.2.1
    simp only [reachBytes] at h2
    exact ⟨⟨h1, by simp only [id]; omega, by simp only [id]; omega, h.2.2.2.1, h.2.2.2.2⟩, by simp only [id]; omega⟩)
end Go.Proofs.YtinpnginjpfbpaaDoor
