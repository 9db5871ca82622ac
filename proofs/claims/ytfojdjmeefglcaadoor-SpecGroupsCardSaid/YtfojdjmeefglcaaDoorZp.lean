/-
  Plain: what a field makes is no longer than what came in; with no fields all rows are of one group.
-/
import Derived.Test.YtfojdjmeefglcaaDoorZn
import Derived.Test.YtfojdjmeefglcaaDoorZl
namespace Go.Proofs.YtfojdjmeefglcaaDoor
open Go.RowKit

theorem applyR_size (f : Fld) (v : Val) (h : v.s.size ≤ 9223372036854775807) : (applyR f v).1.s.size ≤ 9223372036854775807 := by
  have hz : Val.zero.s.size ≤ 9223372036854775807 := by show ByteArray.empty.size ≤ _; simp
  have he : ByteArray.empty.size ≤ 9223372036854775807 := by simp
  have hc : (clean v).s.size ≤ 9223372036854775807 := by
    rcases clean_cases v with ⟨_, e⟩ | ⟨_, e⟩ | ⟨_, e⟩ | ⟨_, e⟩ <;> rw [e]
    · exact he
    · exact he
    · exact h
    · exact hz
  unfold applyR
  split
  · exact hz
  split
  · exact hc
  split
  · exact he
  split
  · exact he
  split
  · show (firstT (clean v).s f.param).size ≤ _
    unfold firstT
    rw [ByteArray.size_extract]
    omega
  exact hz
theorem partT_size (s : Sch) (fs : List Fld) (vs : List Val) (h : ∀ v ∈ vs, FineV v) : ∀ v ∈ partT s fs vs, v.s.size ≤ 9223372036854775807 := by
  intro v hv
  obtain ⟨f, _, rfl⟩ := List.mem_map.1 hv
  apply applyR_size
  rw [List.getD_eq_getElem?_getD]
  cases e : vs[s.cols.findIdx (colId f.source)]? with
  | none => show ByteArray.empty.size ≤ _; simp
  | some x => exact Nat.le_trans (h x (List.mem_of_getElem? e)).1 (by decide)
theorem zeros_fold : ∀ (l : List (List Val)) (st : List (List Val) × List Int), (∀ x ∈ l, x = []) → (st.1 = [] ∧ st.2 = [] ∨ st.1 = [[]]) → (∀ z ∈ st.2, z = 0) → ∀ z ∈ (l.foldl splitStep st).2, z = 0
  | [], st, _, _, hz => hz
  | x :: r, st, hx, hs, hz => by
    rw [List.foldl_cons]
    obtain rfl : x = [] := hx x (by simp)
    refine zeros_fold r _ (fun y hy => hx y (by simp [hy])) ?_ ?_
    · rcases hs with ⟨h1, h2⟩ | h1
      · right; simp [splitStep, h1, idx]
      · right; simp [splitStep, h1, idx, eqVs]
    · rcases hs with ⟨h1, h2⟩ | h1
      · intro z h; simpa [splitStep, h1, h2, idx] using h
      · intro z h
        simp [splitStep, h1, idx, eqVs] at h
        rcases h with h | h
        · exact hz z h
        · exact h
theorem splitR_none (s : Sch) (vss : List (List Val)) : ∀ z ∈ (splitR 0 [] s vss).1, z = 0 := by
  unfold splitR
  split
  · exact zeros_fold _ _ (fun x h => by obtain ⟨_, _, rfl⟩ := List.mem_map.1 h; rfl) (Or.inl ⟨rfl, rfl⟩) (by simp)
  · simp
end Go.Proofs.YtfojdjmeefglcaaDoor
