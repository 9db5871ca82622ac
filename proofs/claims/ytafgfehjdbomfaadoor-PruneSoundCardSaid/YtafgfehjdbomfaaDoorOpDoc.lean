/-
  Rows with fine values, and a spec, among a law's arguments (no program's Part in sight).
-/
import Derived.Test.YtafgfehjdbomfaaDoorOpV
import Derived.Test.YtafgfehjdbomfaaDoorFd
import Derived.Test.YtafgfehjdbomfaaDoorOpRo
import Derived.Test.YtafgfehjdbomfaaDoorPdoc
namespace Go.Proofs.YtafgfehjdbomfaaDoor
open Go.ChangeShapes Go.WideShapes Go.ChangeAt Go.RowKit

set_option maxRecDepth 100000 in
theorem o_fldA : Opens Tryd.prog 98 (fun f : Fld => [.int .i64 f.source, .int .i64 f.trans, .int .i64 f.param]) (fun _ _ => True) :=
  (opens_struct Tryd.underlying98 (tot := 3) (by kernel_rfl) (opensF_cons (by rfl) cells_int o_int (opensF_cons (by rfl) cells_int o_int (opensF_cons (by rfl) cells_int o_int (opensF_nil (by rfl)))))).map
    (fun p : Int × Int × Int × Unit => (⟨p.1, p.2.1, p.2.2.1⟩ : Fld)) (by intro _; rfl) (by intro w p h; trivial)
set_option maxRecDepth 100000 in
theorem o_valF : Opens Tryd.prog 57 (fun v : Val => [.int .i64 v.kind, .int .i64 v.i, .bool v.b, .string v.s]) (fun _ v => v.s.size ≤ 9223372036854775000 ∧ -9223372036854775808 ≤ v.i ∧ v.i ≤ 9223372036854775807) :=
  (opens_struct Tryd.underlying57 (tot := 4) (by kernel_rfl) (opensF_cons (by rfl) cells_int o_int (opensF_cons (by rfl) cells_int o_int (opensF_cons (by rfl) cells_bool o_bool (opensF_cons (by rfl) cells_str o_str (opensF_nil (by rfl))))))).map
    (fun p : Int × Int × Bool × ByteArray × Unit => (⟨p.1, p.2.1, p.2.2.1, p.2.2.2.1⟩ : Val)) (by intro _; rfl) (by
      intro w p h
      have h1 := bounds_i64 h.2.1
      have h2 := h.2.2.2.1.2
      simp only [reachBytes] at h2
      exact ⟨Nat.le_trans h2 (by decide), h1⟩)
end Go.Proofs.YtafgfehjdbomfaaDoor
namespace Go.Proofs.YtafgfehjdbomfaaDoor
open Go.ChangeShapes Go.WideShapes Go.ChangeAt Go.RowKit

set_option maxRecDepth 100000 in
theorem o_valsF : Opens Tryd.prog 52 (fun p : Option Addr × Nat × List Val => [.slice p.1 p.2.2.length p.2.1])
    (fun w p => p.2.2.length ≤ p.2.1 ∧ p.2.1 ≤ 3518437208780 ∧ SlAt w w.heap.size 4 p.1 (p.2.2.map Val.cells) ∧ ∀ v ∈ p.2.2, FineV v) :=
  (opens_slice Tryd.underlying52 (size := 4) (bytes := 40) (by kernel_rfl) (by decide) (by kernel_rfl) (o_valF.map id (c' := Val.cells) (fun _ => rfl) (fun _ _ h => h))).map id (fun _ => rfl) (fun w p h => ⟨h.1, by have := h.2.2.1; simp only [reachBytes] at this; simp only [id]; omega, h.2.2.2.1, h.2.2.2.2⟩)
set_option maxRecDepth 100000 in
theorem o_rowF : Opens Tryd.prog 54 RowA.cells (fun w r => RowIn w r ∧ ∀ v ∈ r.vs, FineV v) :=
  (opens_struct Tryd.underlying54 (tot := 1) (by kernel_rfl) (opensF_cons (by rfl) (show Tryd.prog.cellsOf 52 = 1 by kernel_rfl) o_valsF (opensF_nil (by rfl)))).map
    (fun p : (Option Addr × Nat × List Val) × Unit => (⟨p.1.1, p.1.2.1, p.1.2.2⟩ : RowA)) (by intro _; rfl) (by intro w p h; exact ⟨⟨h.1.1, Nat.le_trans h.1.1 h.1.2.1, Nat.le_trans h.1.2.1 (by decide), h.1.2.2.1, fun v hv => Nat.le_trans (h.1.2.2.2 v hv).1 (by decide)⟩, h.1.2.2.2⟩)
set_option maxRecDepth 100000 in
theorem o_rowsF : Opens Tryd.prog 28 (fun p : Option Addr × Nat × List RowA => [.slice p.1 p.2.2.length p.2.1]) (fun w p => RowsIn w p.2.2 p.1 p.2.1 ∧ ∀ r ∈ p.2.2, ∀ v ∈ r.vs, FineV v) :=
  (opens_slice Tryd.underlying28 (size := 1) (bytes := 24) (by kernel_rfl) (by decide) (by kernel_rfl) o_rowF).map id (fun _ => rfl) (fun w p h => by
    have h1 := h.1
    have h2 := h.2.2.1
    simp only [reachBytes] at h2
    exact ⟨⟨h1, by simp only [id]; omega, by simp only [id]; omega, h.2.2.2.1, fun r hr => (h.2.2.2.2 r hr).1⟩, fun r hr => (h.2.2.2.2 r hr).2⟩)
set_option maxRecDepth 100000 in
theorem o_flds : Opens Tryd.prog 63 (fun p : Option Addr × Nat × List Fld => [.slice p.1 p.2.2.length p.2.1]) (fun w p => FsIn w p.2.2 p.1 p.2.1) :=
  (opens_slice Tryd.underlying63 (size := 3) (bytes := 24) (by kernel_rfl) (by decide) (by kernel_rfl) (o_fldA.map id (c' := Fld.cells) (Q' := fun _ _ => True) (fun _ => rfl) (fun _ _ _ => trivial))).map id (fun _ => rfl) (fun w p h => by
    have h1 := h.1
    have h2 := h.2.2.1
    simp only [reachBytes] at h2
    exact ⟨h1, by simp only [id]; omega, by simp only [id]; omega, h.2.2.2.1⟩)
set_option maxRecDepth 100000 in
theorem o_spec : Opens Tryd.prog 65 (fun p : Int × Option Addr × Nat × List Fld => [.int .i64 p.1, .slice p.2.1 p.2.2.2.length p.2.2.1]) (fun w p => FsIn w p.2.2.2 p.2.1 p.2.2.1) :=
  (opens_struct Tryd.underlying65 (tot := 2) (by kernel_rfl) (opensF_cons (by rfl) cells_int o_int (opensF_cons (by rfl) (show Tryd.prog.cellsOf 63 = 1 by kernel_rfl) o_flds (opensF_nil (by rfl))))).map
    (fun p : Int × (Option Addr × Nat × List Fld) × Unit => (p.1, p.2.1)) (by intro _; rfl) (by intro w p h; exact h.2.1)
set_option maxRecDepth 100000 in
theorem o_fldsL : Opens Tryd.prog 63 (fun p : Option Addr × Nat × List Fld => [.slice p.1 p.2.2.length p.2.1]) (fun w p => FsIn w p.2.2 p.1 p.2.1 ∧ p.2.2.length ≤ 5864062014634) :=
  (opens_slice Tryd.underlying63 (size := 3) (bytes := 24) (by kernel_rfl) (by decide) (by kernel_rfl) (o_fldA.map id (c' := Fld.cells) (Q' := fun _ _ => True) (fun _ => rfl) (fun _ _ _ => trivial))).map id (fun _ => rfl) (fun w p h => by
    have h1 := h.1
    have h2 := h.2.2.1
    simp only [reachBytes] at h2
    exact ⟨⟨h1, by simp only [id]; omega, by simp only [id]; omega, h.2.2.2.1⟩, by simp only [id]; omega⟩)
set_option maxRecDepth 100000 in
theorem o_specL : Opens Tryd.prog 65 (fun p : Int × Option Addr × Nat × List Fld => [.int .i64 p.1, .slice p.2.1 p.2.2.2.length p.2.2.1]) (fun w p => FsIn w p.2.2.2 p.2.1 p.2.2.1 ∧ p.2.2.2.length ≤ 5864062014634) :=
  (opens_struct Tryd.underlying65 (tot := 2) (by kernel_rfl) (opensF_cons (by rfl) cells_int o_int (opensF_cons (by rfl) (show Tryd.prog.cellsOf 63 = 1 by kernel_rfl) o_fldsL (opensF_nil (by rfl))))).map
    (fun p : Int × (Option Addr × Nat × List Fld) × Unit => (p.1, p.2.1)) (by intro _; rfl) (by intro w p h; exact h.2.1)
end Go.Proofs.YtafgfehjdbomfaaDoor
