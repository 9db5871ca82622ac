/-
  One column's schema; nodes in new memory.
-/
import Derived.Test.YtafgfehjdbomfaaDoorPb
import Derived.Test.YtafgfehjdbomfaaDoorFd
import Derived.Test.YtafgfehjdbomfaaDoorPs
namespace Go.Proofs.YtafgfehjdbomfaaDoor
open Go.RowKit

theorem nod_fit (n : Nod) : n.cells.length = 9 ∧ ∀ u ∈ n.cells, u.oneCell' = true := by
  refine ⟨rfl, fun u hu => ?_⟩
  simp [Nod.cells] at hu
  rcases hu with rfl | rfl | rfl | rfl | rfl | rfl | rfl | rfl | rfl <;> rfl
theorem nods_fit (l : List Nod) : Fit 9 (l.map Nod.cells) := Fit.map nod_fit l
def sa1 : Sch := ⟨0, [⟨1, ⟨#[97]⟩, 1⟩], 2⟩
theorem new_a : newR [⟨#[97]⟩] [1] = (sa1, 0) := by kernel_rfl
/-- New memory that holds nodes. -/
theorem PrIn.new {w : World} {b : Nat} (hb : w.heap.size = b) {l : List Nod} {cs : List Value} (he : cs = (l.map Nod.cells).flatten) {n cap : Nat} (_hn : l.length = n) (hc : n ≤ cap) (hm : cap ≤ 24) (hs : (l.all fun n => decide (n.col.size ≤ 100) && decide (n.v.s.size ≤ 100)) = true) : PrIn (w.alloc (.cells cs.toArray 59)) l (some ⟨b, 0, none⟩) cap :=
  ⟨by omega, by omega, by omega, SlAt.new_at hb he (nods_fit l).len, fun n hn => by
    have := List.all_eq_true.1 hs n hn
    simp only [Bool.and_eq_true, decide_eq_true_eq] at this
    omega⟩

theorem numv_any (n : Int) (w : World) : Calls Tryd.prog 18 #[.int .i64 n] w fun e w' => e = .returned (.int .i64 n) ∧ w = w' := by
  go_enter Tryd.func18, Tryd.ntmps18
  go_wp2
  go_ret
  exact ⟨rfl, rfl⟩
end Go.Proofs.YtafgfehjdbomfaaDoor
