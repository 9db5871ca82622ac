import Derived.Test.YtfojdjmeefglcaaDoorC
import Derived.Test.YtfojdjmeefglcaaDoorGen
namespace Go.Proofs.YtfojdjmeefglcaaDoor
open Go.RowKit

theorem clone_any (A : Option Addr) (cap : Nat) (cols : List Col) (w : World) (hat : SlAt w w.heap.size 3 A (cols.map Col.cells)) (hlen : cols.length ≤ 4398046511103) :
    Calls Tryd.prog 106 #[.slice A cols.length cap] w fun e w' => ∃ A' cap', e = .returned (.slice A' cols.length cap') ∧ cols.length ≤ cap' ∧ cap' ≤ maxLen ∧ Own w' w.heap.size 49 3 (.slice A' cols.length cap') (cols.map Col.cells) ∧ Below w.heap.size w w' := by
  cases A with
  | none =>
    have h0 : cols = [] := by
      cases cols with
      | nil => rfl
      | cons c r => obtain ⟨_, _, h, _⟩ := hat (by simp); cases h
    subst h0
    have hq := fun w => Lib.run_eql_slice_nil (P := Tryd.prog) w 22 49 none 0 cap 0 0 Tryd.underlying22
    go_enter Tryd.func106, Tryd.ntmps106
    go_wp2
    go_ret
    exact ⟨_, _, rfl, Nat.le_refl _, by simp [maxLen], Own.nil_ _ _ _ _, Below.refl _ _⟩
  | some ad =>
    have hq := fun w => Lib.run_eql_slice_nil (P := Tryd.prog) w 22 49 (some ad) cols.length cap 0 0 Tryd.underlying22
    go_enter Tryd.func106, Tryd.ntmps106
    go_wp2_with (at_builtin; refine wpList_append_sl rfl (.tmp 5) (.tmp 6) 22 rfl eiCol (base := w.heap.size) (xs := []) rfl ?own Fit.nil_ (ys := cols.map Col.cells) rfl (by simp) (hat.al _) (cols_fit _) (by simp; omega) (by simp) (N := cols.length) (by simp) ?_; rotate_left; intro A' cap' w' hc1 hc2 hown _ hbel)
    case own => exact ⟨by simp, .inr ⟨w.heap.size, 0, #[], rfl, Nat.le_refl _, heap_alloc_new w _, by simp, by simp, by simp, by simp⟩⟩
    go_ret
    exact ⟨_, _, rfl, hc1, hc2, hown, (below_a1 w _).trans hbel⟩

end Go.Proofs.YtfojdjmeefglcaaDoor
