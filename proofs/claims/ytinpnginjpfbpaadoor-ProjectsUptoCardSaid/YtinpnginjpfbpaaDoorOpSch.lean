/-
  Schemas, texts and numbers among a law's arguments.
-/
import Derived.Test.YtinpnginjpfbpaaDoorLaw
import Derived.Test.YtinpnginjpfbpaaDoorSi
namespace Go.Proofs.YtinpnginjpfbpaaDoor
open Go.ChangeShapes Go.WideShapes Go.ChangeAt Go.RowKit

theorem cells_int : Tryd.prog.cellsOf 3 = 1 := by kernel_rfl
theorem cells_str : Tryd.prog.cellsOf 9 = 1 := by kernel_rfl
theorem o_int : Opens Tryd.prog 3 (fun n : Int => [.int .i64 n]) (fun _ n => (Lit.int .i64 n).wf = true) := opens_int Tryd.underlying3
theorem o_str : Opens Tryd.prog 9 (fun s : ByteArray => [.string s]) (fun _ s => s.size ≤ maxLen ∧ s.size ≤ reachBytes) := opens_string Tryd.underlying9

set_option maxRecDepth 100000 in
theorem o_col : Opens Tryd.prog 53 Col.cells (fun _ c => c.name.size ≤ 9223372036854775807) :=
  (opens_struct Tryd.underlying53 (tot := 3) (by kernel_rfl) (opensF_cons (by rfl) cells_int o_int (opensF_cons (by rfl) cells_str o_str (opensF_cons (by rfl) cells_int o_int (opensF_nil (by rfl)))))).map
    (fun p : Int × ByteArray × Int × Unit => (⟨p.1, p.2.1, p.2.2.1⟩ : Col)) (by intro _; rfl) (by intro w p h; have := h.2.1.1; simpa [maxLen] using this)
theorem o_cols : Opens Tryd.prog 22 (fun p : Option Addr × Nat × List Col => [.slice p.1 p.2.2.length p.2.1])
    (fun w p => p.2.2.length ≤ p.2.1 ∧ p.2.1 ≤ 9223372036854775807 ∧ p.2.1 ≤ 4398046511102 ∧ SlAt w w.heap.size 3 p.1 (p.2.2.map Col.cells) ∧ ∀ c ∈ p.2.2, c.name.size ≤ 9223372036854775807) :=
  (opens_slice Tryd.underlying22 (size := 3) (bytes := 32) (by kernel_rfl) (by decide) (by kernel_rfl) o_col).map id (fun _ => rfl) (fun w p h => ⟨h.1, by have := h.2.1; simpa [maxLen] using this, by have := h.2.2.1; simp only [reachBytes] at this; simp only [id]; omega, h.2.2.2.1, h.2.2.2.2⟩)

set_option maxRecDepth 100000 in
theorem o_sch : Opens Tryd.prog 24 (fun p : Sch × Option Addr × Nat => [.int .i64 p.1.id, .slice p.2.1 p.1.cols.length p.2.2, .int .i64 p.1.next]) (fun w p => SchIn w p.1 p.2.1 p.2.2) :=
  (opens_struct Tryd.underlying24 (tot := 3) (by kernel_rfl) (opensF_cons (by rfl) cells_int o_int (opensF_cons (by rfl) (show Tryd.prog.cellsOf 22 = 1 by kernel_rfl) o_cols (opensF_cons (by rfl) cells_int o_int (opensF_nil (by rfl)))))).map
    (fun p : Int × (Option Addr × Nat × List Col) × Int × Unit => (⟨⟨p.1, p.2.1.2.2, p.2.2.1⟩, p.2.1.1, p.2.1.2.1⟩ : Sch × Option Addr × Nat)) (by intro _; rfl) (by intro w p h; exact ⟨h.2.1.1, h.2.1.2.1, Nat.le_trans h.2.1.1 h.2.1.2.2.1, h.2.1.2.2.2.1, h.2.1.2.2.2.2⟩)
theorem o_ints : Opens Tryd.prog 51 (fun p : Option Addr × Nat × List Int => [.slice p.1 p.2.2.length p.2.1])
    (fun w p => p.2.2.length ≤ p.2.1 ∧ p.2.1 ≤ 17592186043904 ∧ SlAt w w.heap.size 1 p.1 (intCells p.2.2) ∧ ∀ n ∈ p.2.2, -9223372036854775808 ≤ n ∧ n ≤ 9223372036854775807) :=
  (opens_slice Tryd.underlying51 (size := 1) (bytes := 8) (by kernel_rfl) (by decide) (by kernel_rfl) o_int).map id (fun _ => rfl) (fun w p h => ⟨h.1, by have := h.2.2.1; simp only [reachBytes] at this; simp only [id]; omega, h.2.2.2.1, fun n hn => bounds_i64 (h.2.2.2.2 n hn)⟩)
theorem o_strs : Opens Tryd.prog 28 (fun p : Option Addr × Nat × List ByteArray => [.slice p.1 p.2.2.length p.2.1])
    (fun w p => p.2.2.length ≤ p.2.1 ∧ p.2.1 ≤ 8796093021952 ∧ SlAt w w.heap.size 1 p.1 (strCells p.2.2) ∧ ∀ n ∈ p.2.2, n.size ≤ 9223372036854775807) :=
  (opens_slice Tryd.underlying28 (size := 1) (bytes := 16) (by kernel_rfl) (by decide) (by kernel_rfl) o_str).map id (fun _ => rfl) (fun w p h => ⟨h.1, by have := h.2.2.1; simp only [reachBytes] at this; simp only [id]; omega, h.2.2.2.1, fun n hn => by have := (h.2.2.2.2 n hn).1; simpa [maxLen] using this⟩)
end Go.Proofs.YtinpnginjpfbpaaDoor
