/-
  Plain: groups of like lists of values.
-/
import Derived.Test.YtfojdjmeefglcaaDoorZk
namespace Go.Proofs.YtfojdjmeefglcaaDoor
open Go.RowKit

theorem eqV_iff {x y : Val} : eqV x y = true ↔ x = y := by
  obtain ⟨a, b, c, d⟩ := x
  obtain ⟨a', b', c', d'⟩ := y
  simp only [eqV, Bool.and_eq_true, beq_iff_eq, Val.mk.injEq]
  constructor
  · rintro ⟨⟨⟨h1, h2⟩, h3⟩, h4⟩
    refine ⟨h1, h2, h3, ?_⟩
    rw [ByteArray.toList_eq, ByteArray.toList_eq] at h4
    apply ByteArray.ext
    exact Array.toList_inj.1 h4
  · rintro ⟨h1, h2, h3, h4⟩
    exact ⟨⟨⟨h1, h2⟩, h3⟩, by rw [h4]⟩
theorem eqVs_iff : ∀ {a b : List Val}, eqVs a b = true ↔ a = b
  | [], [] => by simp [eqVs]
  | [], y :: ys => by simp [eqVs]
  | x :: xs, [] => by simp [eqVs]
  | x :: xs, y :: ys => by
    have ih := eqVs_iff (a := xs) (b := ys)
    simp only [eqVs, Bool.and_eq_true, beq_iff_eq] at ih ⊢
    simp only [List.length_cons, List.zip_cons_cons, List.all_cons, Bool.and_eq_true, eqV_iff, List.cons.injEq]
    constructor
    · rintro ⟨h1, h2, h3⟩
      exact ⟨h2, ih.1 ⟨by omega, h3⟩⟩
    · rintro ⟨h1, h2⟩
      have := ih.2 h2
      exact ⟨by omega, h1, this.2⟩
theorem idx_none {α : Type} {p : α → Bool} {l : List α} (h : idx p l < 0) : ∀ x ∈ l, p x = false := by
  intro x hx
  unfold idx at h
  split at h
  · omega
  · rename_i hl
    cases e : p x with
    | false => rfl
    | true => exact absurd (List.findIdx_lt_length_of_exists ⟨x, hx, e⟩) hl
theorem idx_some {α : Type} {p : α → Bool} {l : List α} (h : ¬ idx p l < 0) : ∃ (j : Nat) (x : α), idx p l = j ∧ l[j]? = some x ∧ p x = true := by
  obtain ⟨e, hl⟩ := idx_yes (p := p) (l := l) (by omega)
  exact ⟨l.findIdx p, l[l.findIdx p], e, List.getElem?_eq_getElem hl, List.findIdx_getElem (w := hl)⟩
/-- What stands behind n lists: each place names its group, groups are unlike. -/
structure Grp (l : List (List Val)) (n : Nat) (st : List (List Val) × List Int) : Prop where
  nodup : st.1.Nodup
  len : st.2.length = n
  at_ : ∀ i, i < n → ∃ g : Nat, st.2[i]? = some (g : Int) ∧ ∃ x, l[i]? = some x ∧ st.1[g]? = some x
theorem Grp.step {l : List (List Val)} {n : Nat} {st : List (List Val) × List Int} {x : List Val} (h : Grp l n st) (hx : l[n]? = some x) : Grp l (n + 1) (splitStep st x) := by
  unfold splitStep
  split
  · rename_i hn
    have hno := idx_none hn
    refine ⟨?_, by simp [h.len], fun i hi => ?_⟩
    · rw [List.nodup_append]
      refine ⟨h.nodup, by simp, fun a ha b hb e => ?_⟩
      simp at hb
      subst hb
      subst e
      have := hno a ha
      rw [eqVs_iff.2 rfl] at this
      cases this
    · rcases Nat.lt_or_eq_of_le (Nat.le_of_lt_succ hi) with hi | rfl
      · obtain ⟨g, h1, y, h2, h3⟩ := h.at_ i hi
        refine ⟨g, ?_, y, h2, ?_⟩
        · rw [List.getElem?_append_left (List.getElem?_eq_some_iff.1 h1).1]; exact h1
        · rw [List.getElem?_append_left (List.getElem?_eq_some_iff.1 h3).1]; exact h3
      · refine ⟨st.1.length, ?_, x, hx, ?_⟩
        · rw [List.getElem?_append_right (by rw [h.len]; exact Nat.le_refl _), h.len]; simp
        · rw [List.getElem?_append_right (Nat.le_refl _)]; simp
  · rename_i hn
    obtain ⟨j, y, hj, hy, hp⟩ := idx_some hn
    obtain rfl := eqVs_iff.1 hp
    refine ⟨h.nodup, by simp [h.len], fun i hi => ?_⟩
    rcases Nat.lt_or_eq_of_le (Nat.le_of_lt_succ hi) with hi | rfl
    · obtain ⟨g, h1, z, h2, h3⟩ := h.at_ i hi
      exact ⟨g, by rw [List.getElem?_append_left (List.getElem?_eq_some_iff.1 h1).1]; exact h1, z, h2, h3⟩
    · refine ⟨j, ?_, y, hx, hy⟩
      rw [List.getElem?_append_right (by rw [h.len]; exact Nat.le_refl _), h.len]
      simp [hj]
theorem grp_take (l : List (List Val)) : ∀ n, n ≤ l.length → Grp l n (splitTo (l.take n))
  | 0, _ => ⟨by simp [splitTo], by simp [splitTo], fun i hi => by omega⟩
  | n + 1, h => by
    have hx : l[n]? = some l[n] := List.getElem?_eq_getElem (by omega)
    rw [List.take_add_one, hx]
    show Grp l (n + 1) (splitTo (l.take n ++ [l[n]]))
    rw [splitTo_snoc]
    exact (grp_take l n (by omega)).step hx
/-- Two places name one group if and only if their lists are one. -/
theorem grp_same {l : List (List Val)} {i k : Nat} {a b : List Val} {x y : Int} (ha : l[i]? = some a) (hb : l[k]? = some b) (hx : (splitTo l).2[i]? = some x) (hy : (splitTo l).2[k]? = some y) : x = y ↔ a = b := by
  have hg := grp_take l l.length (Nat.le_refl _)
  rw [List.take_length] at hg
  obtain ⟨g, h1, a', h2, h3⟩ := hg.at_ i (List.getElem?_eq_some_iff.1 ha).1
  obtain ⟨g', h1', b', h2', h3'⟩ := hg.at_ k (List.getElem?_eq_some_iff.1 hb).1
  rw [ha] at h2; rw [hb] at h2'
  injection h2 with h2; injection h2' with h2'
  subst h2 h2'
  rw [h1] at hx; rw [h1'] at hy
  injection hx with hx; injection hy with hy
  constructor
  · intro e
    have : g = g' := by omega
    subst this
    rw [h3] at h3'
    injection h3'
  · intro e
    subst e
    obtain ⟨p1, e1⟩ := List.getElem?_eq_some_iff.1 h3
    obtain ⟨p2, e2⟩ := List.getElem?_eq_some_iff.1 h3'
    have hn := List.pairwise_iff_getElem.1 hg.nodup
    rcases Nat.lt_trichotomy g g' with hlt | heq | hgt
    · exact absurd (e1.trans e2.symm) (hn g g' p1 p2 hlt)
    · subst heq; omega
    · exact absurd (e2.trans e1.symm) (hn g' g p2 p1 hgt)
end Go.Proofs.YtfojdjmeefglcaaDoor
