/-
  Plain: a file's columns rise by Id; the place of a column's Id among the first j columns.
-/
import Derived.Test.YtinpnginjpfbpaaDoorYo
namespace Go.Proofs.YtinpnginjpfbpaaDoor
open Go.RowKit

theorem cols_rise : ∀ {cols : List Col} {vals : List (List Val)} {rows last : Int}, vals.length = cols.length → colsB rows last cols vals = true → ∀ (i j : Nat) (a b : Col), i < j → cols[i]? = some a → cols[j]? = some b → a.id < b.id
  | [], _, _, _, _, _, i, _, _, _, _, ha, _ => by simp at ha
  | _ :: _, [], _, _, h, _, _, _, _, _, _, _, _ => by simp at h
  | c :: cs, v :: vs, rows, last, hl, h, i, j, a, b, hij, ha, hb => by
    simp only [colsB, colB, Bool.and_eq_true, decide_eq_true_eq] at h
    have hl2 : vs.length = cs.length := by simpa using hl
    obtain ⟨j', rfl⟩ : ∃ j', j = j' + 1 := ⟨j - 1, by omega⟩
    have hb' : cs[j']? = some b := by simpa using hb
    cases i with
    | zero =>
      have ha' : c = a := by simpa using ha
      subst ha'
      have hj := (List.getElem?_eq_some_iff.1 hb').1
      exact (colsB_len h.2 j' b vs[j'] hb' (List.getElem?_eq_getElem (by omega))).2.1
    | succ i' => exact cols_rise hl2 h.2 i' j' a b (by omega) (by simpa using ha) hb'
theorem idx_nil {α : Type} (p : α → Bool) : idx p [] = -1 := by simp [idx]
theorem idx_noneB {α : Type} {p : α → Bool} {l : List α} (h : ∀ x ∈ l, p x = false) : idx p l = -1 := by
  unfold idx
  rw [if_neg]
  intro hlt
  have := List.findIdx_getElem (w := hlt)
  rw [h _ (List.getElem_mem _)] at this
  cases this
theorem idx_app_no {α : Type} {p : α → Bool} {l : List α} {x : α} (h : p x = false) : idx p (l ++ [x]) = idx p l := by
  unfold idx
  rw [List.findIdx_append, List.length_append]
  by_cases hlt : List.findIdx p l < l.length
  · rw [if_pos hlt, if_pos (by simp; omega), if_pos hlt]
  · rw [if_neg hlt, if_neg hlt, if_neg]
    simp [List.findIdx_cons, h]
    omega
theorem idx_app_yes {α : Type} {p : α → Bool} {l : List α} {x : α} (hl : ∀ y ∈ l, p y = false) (h : p x = true) : idx p (l ++ [x]) = (l.length : Int) := by
  unfold idx
  have h1 : ¬ List.findIdx p l < l.length := by
    intro hlt
    have := List.findIdx_getElem (w := hlt)
    rw [hl _ (List.getElem_mem _)] at this
    cases this
  have h2 : List.findIdx p (l ++ [x]) = l.length := by
    rw [List.findIdx_append, if_neg h1]
    simp [List.findIdx_cons, h]
  rw [h2, if_pos (by simp)]
/-- The next column has another Id. -/
theorem idx_take_no {cols : List Col} {j : Nat} {o : Col} {id : Int} (hj : cols[j]? = some o) (h : o.id ≠ id) : idx (byId id) (cols.take (j + 1)) = idx (byId id) (cols.take j) := by
  rw [List.take_add_one, hj]
  exact idx_app_no (by simpa [byId] using h)
/-- The next column has the Id: none ahead of it has. -/
theorem idx_take_yes {cols : List Col} {vals : List (List Val)} {rows last : Int} (hl : vals.length = cols.length) (hc : colsB rows last cols vals = true) {j : Nat} {o : Col} {id : Int} (hj : cols[j]? = some o) (h : o.id = id) : idx (byId id) (cols.take (j + 1)) = (j : Int) := by
  have hjl := (List.getElem?_eq_some_iff.1 hj).1
  rw [List.take_add_one, hj]
  have := idx_app_yes (p := byId id) (l := cols.take j) (x := o) (fun y hy => ?_) (by simp [byId, h])
  · rw [List.length_take, Nat.min_eq_left (by omega)] at this
    exact this
  · obtain ⟨i, hi, rfl⟩ := List.mem_iff_getElem.1 hy
    have hi2 : i < j := by rw [List.length_take] at hi; omega
    have hr := cols_rise hl hc i j (cols[i]'(by omega)) o hi2 (List.getElem?_eq_getElem (by omega)) hj
    rw [List.getElem_take]
    simp only [byId, beq_eq_false_iff_ne]
    omega
/-- Columns of the Id among the first j: their kinds. -/
theorem fromOk_take_no {cols : List Col} {c o : Col} {j : Nat} (hj : cols[j]? = some o) (h : o.id ≠ c.id) (hk : fromOk (cols.take j) c = true) : fromOk (cols.take (j + 1)) c = true := by
  rcases idx_cases2 (byId c.id) (cols.take j) with hi | ⟨a, hi, ha⟩
  · exact fromOk_none (by rw [idx_take_no hj h, hi])
  · obtain ⟨x, hx⟩ : ∃ x, (cols.take j)[a]? = some x := ⟨_, List.getElem?_eq_getElem ha⟩
    have hx2 : (cols.take (j + 1))[a]? = some x := by
      rw [List.getElem?_take] at hx ⊢
      rw [List.length_take] at ha
      rw [if_pos (by omega)] at hx ⊢
      exact hx
    by_cases hkk : x.kind = c.kind
    · exact fromOk_yes (by rw [idx_take_no hj h, hi]) hx2 hkk
    · rw [fromOk_no hi hx hkk] at hk; cases hk
theorem fromOk_take_yes {cols : List Col} {vals : List (List Val)} {rows last : Int} (hl : vals.length = cols.length) (hc : colsB rows last cols vals = true) {j : Nat} {c o : Col} (hj : cols[j]? = some o) (h : o.id = c.id) (hk : o.kind = c.kind) : fromOk (cols.take (j + 1)) c = true := by
  refine fromOk_yes (idx_take_yes hl hc hj h) ?_ hk
  rw [List.getElem?_take, if_pos (by omega), hj]
theorem idx_eq_of {cols : List Col} {vals : List (List Val)} {rows last : Int} (hl : vals.length = cols.length) (hc : colsB rows last cols vals = true) {j : Nat} {o : Col} {id : Int} (hj : cols[j]? = some o) (h : o.id = id) : idx (byId id) cols = (j : Int) := by
  have e := idx_take_yes hl hc hj h
  have hjl := (List.getElem?_eq_some_iff.1 hj).1
  have : ∀ k, j + 1 + k ≤ cols.length → idx (byId id) (cols.take (j + 1 + k)) = (j : Int) := by
    intro k
    induction k with
    | zero => intro _; exact e
    | succ k ih =>
      intro hk
      obtain ⟨x, hx⟩ : ∃ x, cols[j + 1 + k]? = some x := ⟨_, List.getElem?_eq_getElem (by omega)⟩
      have hr := cols_rise hl hc j (j + 1 + k) o x (by omega) hj hx
      rw [show j + 1 + (k + 1) = j + 1 + k + 1 by omega, idx_take_no hx (by omega)]
      exact ih (by omega)
  have := this (cols.length - (j + 1)) (by omega)
  rw [show j + 1 + (cols.length - (j + 1)) = cols.length by omega, List.take_length] at this
  exact this
/-- A column of the Id, of another kind: no rows. -/
theorem fromOk_bad {cols : List Col} {vals : List (List Val)} {rows last : Int} (hl : vals.length = cols.length) (hc : colsB rows last cols vals = true) {j : Nat} {c o : Col} (hj : cols[j]? = some o) (h : o.id = c.id) (hk : o.kind ≠ c.kind) : fromOk cols c = false := fromOk_no (idx_eq_of hl hc hj h) hj hk
end Go.Proofs.YtinpnginjpfbpaaDoor
