/-
  Plain facts on flat lists of cells, and the row of columns in the table of types.
-/
import Derived.Test.YtafgfehjdbomfaaDoorLaws2
namespace Go.Proofs.YtafgfehjdbomfaaDoor
open Go.RowKit

theorem eiCol : EI Tryd.prog 25 71 3 32 :=
  ⟨Tryd.underlying25, info_parts (show (Tryd.prog.info? 71).map (fun i => (i.zero, i.size, i.bytes)) = some (some (.agg #[.int .i64 0, .string .empty, .int .i64 0]), 3, 32) by kernel_rfl) |>.elim fun i h => ⟨i, _, h.1, h.2.1, h.2.2.1, h.2.2.2, rfl⟩, by decide, by decide⟩

theorem At.of_take {w : World} {b off n : Nat} {cs xs : List Value} (h : At w b off cs) (ht : cs.take n = xs) : At w b off xs := fun j u hu => by
  rw [← ht, List.getElem?_take] at hu
  split at hu
  · exact h j u hu
  · cases hu
theorem At.of_flatten {w : World} {b size : Nat} : ∀ {l : List (List Value)} {off : Nat}, (∀ x ∈ l, x.length = size) → At w b off l.flatten → ∀ (i : Nat) cs, l[i]? = some cs → At w b (off + i * size) cs := by
  intro l off hs h i cs hi j u hu
  have := h (i * size + j) u (flatten_at hs i cs hi j u hu)
  rwa [← Nat.add_assoc] at this
theorem flatten_take {size : Nat} : ∀ {l : List (List Value)}, (∀ x ∈ l, x.length = size) → ∀ k, l.flatten.take (k * size) = (l.take k).flatten
  | [], _, _ => by simp
  | x :: r, hs, 0 => by simp
  | x :: r, hs, k + 1 => by
    have hx := hs x (by simp)
    rw [List.flatten_cons, List.take_succ_cons, List.flatten_cons, List.take_append, hx, show (k + 1) * size - size = k * size by rw [Nat.add_mul]; omega, flatten_take (fun y hy => hs y (by simp [hy])),
      List.take_of_length_le (by rw [hx, Nat.add_mul]; omega)]

theorem take_app3 {α : Type} (a b c : List α) (n : Nat) (h : n = a.length + b.length) : (a ++ b ++ c).take n = a ++ b := by
  subst h
  rw [← List.length_append, List.take_left]
end Go.Proofs.YtafgfehjdbomfaaDoor
