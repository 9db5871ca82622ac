/-
  Parse's deferred functions.
-/
import Derived.Test.YtoibfefalflooaaDoorJp
import Derived.Tactics2
import Derived.Defers
import Derived.Recover
namespace Go.Proofs.YtoibfefalflooaaDoor
open Go.RowKit

theorem catch_idle (p : Addr) (w : World) :
    CallsD Tryd.prog 20 #[.pointer (some p)] .returning w fun e u' w' => e = .returned (.tuple #[]) ∧ u' = .returning ∧ w' = w := by
  refine callsD_of_wpS Tryd.func20 rfl fun c₀ cs hu => ?_
  apply wpS_seq
  apply wpS_region
  simp [wpOpsS, go_sem, recoverD, hu, Tryd.ntmps20, Exit.thenS]
  apply wpS_seq
  apply wpS_region
  simp [wpOpsS, go_sem, Exit.thenS]
  refine wpS_cond (t := false) (by simp [Act.eval]) ?_
  simp only [Bool.false_eq_true, if_false]
  refine wpS_of_wp (wp_skip ?_)
  cases c₀
  simp_all [bodyPostS, results, Tryd.results20]
set_option maxRecDepth 100000 in
theorem catch_panicking (pb : Nat) (et : TypeId) (x c : Int) (older : List PanicEntry) (w : World) (hb : Blk w pb et [.int .i64 x]) :
    CallsD Tryd.prog 20 #[.pointer (some ⟨pb, 0, none⟩)] (.panicking ({ v := fault c, recovered := false } :: older)) w fun e u' w' =>
      e = .returned (.tuple #[]) ∧ u' = .panicking ({ v := fault c, recovered := true } :: older) ∧ w' = (w.setCell ⟨pb, 0, none⟩ (.int .i64 c)).alloc (.cells #[.int .i64 c] 72) := by
  have q0 := At.z1 hb.at0
  have lq := hb.lt
  have fq := hb.free
  clear hb
  refine callsD_of_wpS Tryd.func20 rfl fun c₀ cs hu => ?_
  apply wpS_seq
  apply wpS_region
  simp [wpOpsS, go_sem, recoverD, hu, Tryd.ntmps20, Exit.thenS]
  apply wpS_seq
  apply wpS_region
  simp [wpOpsS, go_sem, Exit.thenS, fault]
  refine wpS_cond (t := true) (by simp [Act.eval]) ?_
  simp only [if_true]
  rw [show (Array.replicate 19 undef : Array Value) = #[undef, undef, undef, undef, undef, undef, undef, undef, undef, undef, undef, undef, undef, undef, undef, undef, undef, undef, undef] from rfl]
  simp only [List.setIfInBounds_toArray, List.set_cons_zero, List.set_cons_succ, List.append_toArray, List.cons_append, List.nil_append]
  have hta : ∀ w : World, (Instr.typeAssert (.iface 72 (.agg #[.int .i64 c])) 20 72 true).run Tryd.prog w = .ok (.tuple #[.agg #[.int .i64 c], .bool true]) w := fun _ => by kernel_rfl
  refine wpS_of_wp ?_
  go_wp2_with fail
  cases c₀
  simp_all [bodyPostS, results, Tryd.results20]
end Go.Proofs.YtoibfefalflooaaDoor
