/-
  One column's schema; nodes in new memory.
-/
import Derived.Test.YtcgpfllkbflbhaaGreatDoorPb
import Derived.Test.YtcgpfllkbflbhaaGreatDoorPs
namespace Go.Proofs.YtcgpfllkbflbhaaGreatDoor
open Go.RowKit

theorem nod_fit (n : Nod) : n.cells.length = 9 ∧ ∀ u ∈ n.cells, u.oneCell' = true := by
  refine ⟨rfl, fun u hu => ?_⟩
  simp [Nod.cells] at hu
  rcases hu with rfl | rfl | rfl | rfl | rfl | rfl | rfl | rfl | rfl <;> rfl
theorem nods_fit (l : List Nod) : Fit 9 (l.map Nod.cells) := Fit.map nod_fit l
def sa1 : Sch := ⟨0, [⟨1, ⟨#[97]⟩, 1⟩], 2⟩
theorem new_a : newR [⟨#[97]⟩] [1] = (sa1, 0) := by kernel_rfl
/-- New memory that holds nodes. -/
theorem PrIn.new {w : World} {b : Nat} (hb : w.heap.size = b) {l : List Nod} {cs : List Value} (he : cs = (l.map Nod.cells).flatten) {n cap : Nat} (_hn : l.length = n) (hc : n ≤ cap) (hm : cap ≤ 24) (hs : (l.all fun n => decide (n.col.size ≤ 100) && decide (n.v.s.size ≤ 100)) = true) : PrIn (w.alloc (.cells cs.toArray 66)) l (some ⟨b, 0, none⟩) cap :=
  ⟨by omega, by omega, by omega, SlAt.new_at hb he (nods_fit l).len, fun n hn => by
    have := List.all_eq_true.1 hs n hn
    simp only [Bool.and_eq_true, decide_eq_true_eq] at this
    omega⟩

theorem numv_any (n : Int) (w : World) : Calls Tryz.prog 11 #[.int .i64 n] w fun e w' => e = .returned (.int .i64 n) ∧ w = w' := by
  go_enter Tryz.func11, Tryz.ntmps11
  go_wp2
  go_ret
  exact ⟨rfl, rfl⟩
theorem idx_cases' {α : Type} (p : α → Bool) (l : List α) : (¬ 0 ≤ idx p l ∧ l.any p = false) ∨ (0 ≤ idx p l ∧ l.any p = true) := by
  unfold idx
  split
  · rename_i h
    exact .inr ⟨by omega, List.any_eq_true.2 ⟨l[l.findIdx p], List.getElem_mem h, List.findIdx_getElem (w := h)⟩⟩
  · rename_i h
    refine .inl ⟨by omega, ?_⟩
    rw [List.any_eq_false]
    intro x hx hp
    exact h (List.findIdx_lt_length_of_exists ⟨x, hx, hp⟩)
theorem idx_any {α : Type} (p : α → Bool) (l : List α) : decide (0 ≤ idx p l) = l.any p := by
  rcases idx_cases' p l with ⟨h1, h2⟩ | ⟨h1, h2⟩
  · rw [h2]; simpa using h1
  · rw [h2]; simpa using h1
end Go.Proofs.YtcgpfllkbflbhaaGreatDoor
