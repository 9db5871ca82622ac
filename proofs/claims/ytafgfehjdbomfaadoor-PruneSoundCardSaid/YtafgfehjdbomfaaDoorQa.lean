/-
  The document's own answer: truth, stands, both, turned, Cmp.
-/
import Derived.Test.YtafgfehjdbomfaaDoorPa
import Derived.Test.YtafgfehjdbomfaaDoorCm
namespace Go.Proofs.YtafgfehjdbomfaaDoor
open Go.RowKit

theorem rtruth_any (b : Bool) (w : World) : Calls Tryd.prog 76 #[.bool b] w fun e w' => e = .returned (.int .i64 (truthI b)) ∧ w = w' := by
  cases b
  all_goals
    go_enter Tryd.func76, Tryd.ntmps76
    go_wp2
    go_ret
    exact ⟨rfl, rfl⟩
theorem rboth_any (o : Bool) (a b : Int) (w : World) (ha : Tr a) (hb : Tr b) : Calls Tryd.prog 79 #[.bool o, .int .i64 a, .int .i64 b] w fun e w' => e = .returned (.int .i64 (bothR o a b)) ∧ w = w' := by
  cases o <;> rcases ha with rfl | rfl | rfl <;> rcases hb with rfl | rfl | rfl
  all_goals
    go_enter Tryd.func79, Tryd.ntmps79
    go_wp2
    go_ret
    exact ⟨rfl, rfl⟩
theorem rstands_any (c x : Int) (w : World) : Calls Tryd.prog 77 #[.int .i64 c, .int .i64 x] w fun e w' => e = .returned (.bool (standR c x)) ∧ w = w' := by
  by_cases h0 : c = 0
  · subst h0
    go_enter Tryd.func77, Tryd.ntmps77
    go_wp2
    go_ret
    exact ⟨ret_bool (by first | rfl | simp [standR]), rfl⟩
  have e0 : (c == 0) = false := by simpa using h0
  by_cases h1 : c = 1
  · subst h1
    clear h0 e0
    go_enter Tryd.func77, Tryd.ntmps77
    go_wp2
    go_ret
    exact ⟨ret_bool (by first | rfl | simp [standR]), rfl⟩
  have e1 : (c == 1) = false := by simpa using h1
  by_cases h2 : c = 2
  · subst h2
    clear h0 e0 h1 e1
    go_enter Tryd.func77, Tryd.ntmps77
    go_wp2
    go_ret
    exact ⟨ret_bool (by first | rfl | simp [standR]), rfl⟩
  have e2 : (c == 2) = false := by simpa using h2
  by_cases h3 : c = 3
  · subst h3
    clear h0 e0 h1 e1 h2 e2
    go_enter Tryd.func77, Tryd.ntmps77
    go_wp2
    go_ret
    exact ⟨ret_bool (by first | rfl | simp [standR]), rfl⟩
  have e3 : (c == 3) = false := by simpa using h3
  by_cases h4 : c = 4
  · subst h4
    clear h0 e0 h1 e1 h2 e2 h3 e3
    go_enter Tryd.func77, Tryd.ntmps77
    go_wp2
    go_ret
    exact ⟨ret_bool (by first | rfl | simp [standR]), rfl⟩
  have e4 : (c == 4) = false := by simpa using h4
  have HX : Hid (standR c x = decide (0 ≤ x)) := by show _ = _; simp [standR, h0, h1, h2, h3, h4]
  clear h0 h1 h2 h3 h4
  go_enter Tryd.func77, Tryd.ntmps77
  go_wp2
  go_ret
  exact ⟨ret_bool HX.out.symm, rfl⟩

end Go.Proofs.YtafgfehjdbomfaaDoor
