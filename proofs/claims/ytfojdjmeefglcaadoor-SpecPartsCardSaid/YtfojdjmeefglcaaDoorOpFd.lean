/-
  A field, a value with its bounds among a law's arguments.
-/
import Derived.Test.YtfojdjmeefglcaaDoorOpV
import Derived.Test.YtfojdjmeefglcaaDoorFd
namespace Go.Proofs.YtfojdjmeefglcaaDoor
open Go.ChangeShapes Go.WideShapes Go.ChangeAt Go.RowKit

set_option maxRecDepth 100000 in
theorem o_fldA : Opens Tryd.prog 78 (fun f : Fld => [.int .i64 f.source, .int .i64 f.trans, .int .i64 f.param]) (fun _ _ => True) :=
  (opens_struct Tryd.underlying78 (tot := 3) (by kernel_rfl) (opensF_cons (by rfl) cells_int o_int (opensF_cons (by rfl) cells_int o_int (opensF_cons (by rfl) cells_int o_int (opensF_nil (by rfl)))))).map
    (fun p : Int × Int × Int × Unit => (⟨p.1, p.2.1, p.2.2.1⟩ : Fld)) (by intro _; rfl) (by intro w p h; trivial)
set_option maxRecDepth 100000 in
theorem o_valF : Opens Tryd.prog 73 (fun v : Val => [.int .i64 v.kind, .int .i64 v.i, .bool v.b, .string v.s]) (fun _ v => v.s.size ≤ 9223372036854775000 ∧ -9223372036854775808 ≤ v.i ∧ v.i ≤ 9223372036854775807) :=
  (opens_struct Tryd.underlying73 (tot := 4) (by kernel_rfl) (opensF_cons (by rfl) cells_int o_int (opensF_cons (by rfl) cells_int o_int (opensF_cons (by rfl) cells_bool o_bool (opensF_cons (by rfl) cells_str o_str (opensF_nil (by rfl))))))).map
    (fun p : Int × Int × Bool × ByteArray × Unit => (⟨p.1, p.2.1, p.2.2.1, p.2.2.2.1⟩ : Val)) (by intro _; rfl) (by
      intro w p h
      have h1 := bounds_i64 h.2.1
      have h2 := h.2.2.2.1.2
      simp only [reachBytes] at h2
      exact ⟨Nat.le_trans h2 (by decide), h1⟩)
end Go.Proofs.YtfojdjmeefglcaaDoor
