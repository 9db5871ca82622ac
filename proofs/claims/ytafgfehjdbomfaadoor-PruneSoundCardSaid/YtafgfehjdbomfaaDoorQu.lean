/-
  The document's turned.
-/
import Derived.Test.YtafgfehjdbomfaaDoorQa
namespace Go.Proofs.YtafgfehjdbomfaaDoor
open Go.RowKit

theorem rturned_any (a : Int) (w : World) (ha : Tr a) : Calls Tryd.prog 78 #[.int .i64 a] w fun e w' => e = .returned (.int .i64 (turnR a)) ∧ w = w' := by
  rcases ha with rfl | rfl | rfl
  all_goals
    go_enter Tryd.func78, Tryd.ntmps78
    go_wp2
    go_ret
    exact ⟨rfl, rfl⟩
end Go.Proofs.YtafgfehjdbomfaaDoor
