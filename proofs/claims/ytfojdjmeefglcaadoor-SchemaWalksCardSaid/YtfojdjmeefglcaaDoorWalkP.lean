/-
  Plain facts for the law SchemaWalks: what a change that is taken leaves.
-/
import Derived.Test.YtfojdjmeefglcaaDoorPg
namespace Go.Proofs.YtfojdjmeefglcaaDoor
open Go.RowKit

theorem nextR_ok {s t : Sch} {n : Int} (h : nextR s = (t, n)) (hn : n = 0) : t = s ∧ mayB t = true := by
  unfold nextR at h
  split at h
  · injection h with h1 h2; subst h1; exact ⟨rfl, by assumption⟩
  · injection h with h1 h2; subst hn; cases h2
theorem nextR_bad {s t : Sch} {n : Int} (h : nextR s = (t, n)) (hn : n ≠ 0) : t = Sch.zero := by
  unfold nextR at h
  split at h
  · injection h with h1 h2; exact absurd h2.symm hn
  · injection h with h1 h2; exact h1.symm
theorem addR_got {s t : Sch} {nm : ByteArray} {k n : Int} (h : addR s nm k = (t, n)) (hn : n = 0) : mayB t = true ∧ t.id = s.id + 1 ∧ t.next = s.next + 1 ∧ t.cols = s.cols ++ [⟨s.next, nm, k⟩] := by
  subst hn
  unfold addR at h
  repeat' split at h
  all_goals first
    | (obtain ⟨rfl, h2⟩ := nextR_ok h rfl; exact ⟨h2, rfl, rfl, rfl⟩)
    | (injection h with _ h2; cases h2)
theorem dropR_got {s t : Sch} {nm : ByteArray} {n : Int} (h : dropR s nm = (t, n)) (hn : n = 0) : mayB t = true ∧ t.id = s.id + 1 ∧ t.next = s.next := by
  subst hn
  unfold dropR at h
  repeat' split at h
  all_goals first
    | (obtain ⟨rfl, h2⟩ := nextR_ok h rfl; exact ⟨h2, rfl, rfl⟩)
    | (injection h with _ h2; cases h2)
theorem renameR_got {s t : Sch} {nm nw : ByteArray} {n : Int} (h : renameR s nm nw = (t, n)) (hn : n = 0) :
    mayB t = true ∧ t.id = s.id + 1 ∧ t.next = s.next ∧ ∃ (j : Nat) (c d : Col), idx (named nm) s.cols = (j : Int) ∧ idx (named nw) t.cols = (j : Int) ∧ s.cols[j]? = some c ∧ t.cols[j]? = some d ∧ d.id = c.id := by
  subst hn
  unfold renameR at h
  split at h
  · injection h with _ h2; cases h2
  split at h
  · injection h with _ h2; cases h2
  split at h
  · injection h with _ h2; cases h2
  split at h
  · injection h with _ h2; cases h2
  rename_i _ h1 _ _
  obtain ⟨rfl, h2⟩ := nextR_ok h rfl
  obtain ⟨e1, e2⟩ := idx_yes (p := named nm) (l := s.cols) (by omega)
  obtain ⟨j, hj⟩ : ∃ j, s.cols.findIdx (named nm) = j := ⟨_, rfl⟩
  rw [hj] at h2 e1 e2 ⊢
  refine ⟨h2, rfl, rfl, j, s.cols[j], { s.cols[j] with name := nw }, e1, ?_, List.getElem?_eq_getElem e2, ?_, rfl⟩
  · obtain ⟨_, _, g2⟩ := mayB_iff.1 h2
    rw [List.pairwise_iff_getElem] at g2
    have hl : j < (setName s.cols j nw).length := by simpa [setName] using e2
    have hget : (setName s.cols j nw)[j] = { s.cols[j] with name := nw } := by rw [setName_get hl e2, if_pos rfl]
    have hfi : (setName s.cols j nw).findIdx (named nw) = j := by
      refine List.findIdx_eq (h := hl) |>.2 ⟨by rw [hget]; simp [named], fun i hi => ?_⟩
      have := (clash_iff.1 (g2 i j (by simp only; omega) hl hi)).2
      simp only at this
      rw [hget] at this
      simpa [named] using this
    simp only [idx, hfi, hl, if_true]
  · simp [setName, List.getElem?_eq_getElem e2]
end Go.Proofs.YtfojdjmeefglcaaDoor
