/-
  What Check gives of a predicate's nodes.
-/
import Derived.Test.YtafgfehjdbomfaaDoorPk
import Derived.Test.YtafgfehjdbomfaaDoorRo
import Derived.Test.YtafgfehjdbomfaaDoorPrL
import Derived.Deep.RegionHeld3
import Derived.Deep.RegionLaw
import Derived.Deep.Cut
import Derived.Deep.CutBlock
namespace Go.Proofs.YtafgfehjdbomfaaDoor
open Go.RowKit


/-- What Check gives of node k: its column's place, or those ahead that it names. -/
theorem node_col {ns : List Nod} {s : Sch} {k : Nat} {n : Nod} (h : checkE ns s = 0) (hn : ns[k]? = some n) (hk : n.kind = 1 ∨ n.kind = 2) : ∃ j : Nat, idx (named n.col) s.cols = (j : Int) ∧ j < s.cols.length ∧ s.cols.findIdx (named n.col) = j := by
  obtain ⟨_, _, h3⟩ := checkE_inv h
  have he := h3 n (List.mem_of_getElem? hn)
  rcases idx_cases (named n.col) s.cols with hi | ⟨j, hi, hj⟩
  · rw [nodE_none hk (by omega)] at he; cases he
  · obtain ⟨e, _⟩ := idx_yes (p := named n.col) (l := s.cols) (by omega)
    exact ⟨j, hi, hj, by omega⟩
theorem node_kinds {ns : List Nod} {s : Sch} {k : Nat} {n : Nod} (h : checkE ns s = 0) (hn : ns[k]? = some n) :
    n.kind = 0 ∨ (n.kind = 1 ∨ n.kind = 2) ∨ (n.kind = 3 ∧ ∃ l : Nat, n.l = l ∧ l < k) ∨ ((n.kind = 4 ∨ n.kind = 5) ∧ ∃ l r : Nat, n.l = l ∧ n.r = r ∧ l < k ∧ r < k) := by
  obtain ⟨h1, _, _⟩ := checkE_inv h
  have hb := (predB_iff.1 h1).2 k n hn
  unfold nodB ahead at hb
  split at hb
  · omega
  split at hb
  · omega
  split at hb
  · rename_i h3
    simp only [Bool.and_eq_true, decide_eq_true_eq] at hb
    exact .inr (.inr (.inl ⟨h3, n.l.toNat, by omega, by omega⟩))
  split at hb
  · rename_i h4
    simp only [Bool.and_eq_true, decide_eq_true_eq] at hb
    exact .inr (.inr (.inr ⟨h4, n.l.toNat, n.r.toNat, by omega, by omega, by omega, by omega⟩))
  · cases hb
theorem evalT_get {s : Sch} {vs : List Val} {ns : List Nod} {k l : Nat} (hk : k ≤ ns.length) (hl : l < k) : ∃ x, (evalT s vs (ns.take k))[l]? = some x ∧ (evalT s vs (ns.take k)).getD l 0 = x ∧ Tr x := by
  have hlen : (evalT s vs (ns.take k)).length = k := by rw [evalT_len]; simp; omega
  have hx : (evalT s vs (ns.take k))[l]? = some ((evalT s vs (ns.take k))[l]'(by omega)) := List.getElem?_eq_getElem (by omega)
  exact ⟨_, hx, by rw [List.getD_eq_getElem?_getD, hx]; rfl, evalT_tr s vs (ns.take k) _ (List.mem_of_getElem? hx)⟩
theorem lastT_snoc (l : List Int) (x : Int) : lastT (l ++ [x]) = x := by simp [lastT]
theorem step_true {s : Sch} {vs : List Val} {acc : List Int} {n : Nod} (h : n.kind = 0) : stepT s vs acc n = 1 := by simp [stepT, h]
theorem step_leaf {s : Sch} {vs : List Val} {acc : List Int} {n : Nod} {j : Nat} {v : Val} (h : n.kind = 1 ∨ n.kind = 2) (hj : s.cols.findIdx (named n.col) = j) (hv : vs[j]? = some v) : stepT s vs acc n = leafT n v := by
  rw [stepT, if_neg (by omega), if_pos h, hj, List.getD_eq_getElem?_getD, hv]
  rfl
theorem step_not {s : Sch} {vs : List Val} {acc : List Int} {n : Nod} {l : Nat} {x : Int} (h : n.kind = 3) (hl : n.l = l) (hx : acc.getD l 0 = x) : stepT s vs acc n = joinT 3 x x := by
  rw [stepT, if_neg (by omega), if_neg (by omega), if_pos h, hl, Int.toNat_natCast, hx]
theorem step_two {s : Sch} {vs : List Val} {acc : List Int} {n : Nod} {l r : Nat} {x y : Int} (h : n.kind = 4 ∨ n.kind = 5) (hl : n.l = l) (hr : n.r = r) (hx : acc.getD l 0 = x) (hy : acc.getD r 0 = y) : stepT s vs acc n = joinT n.kind x y := by
  rw [stepT, if_neg (by omega), if_neg (by omega), if_neg (by omega), hl, hr, Int.toNat_natCast, Int.toNat_natCast, hx, hy]

end Go.Proofs.YtafgfehjdbomfaaDoor
