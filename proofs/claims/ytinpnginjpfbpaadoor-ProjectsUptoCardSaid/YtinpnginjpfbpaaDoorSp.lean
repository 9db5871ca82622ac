/-
  Plain facts on schemas: what Add, Drop, Rename make of a schema that may be.
-/
import Derived.Test.YtinpnginjpfbpaaDoorData
namespace Go.Proofs.YtinpnginjpfbpaaDoor
open Go.RowKit

theorem okUpto_all {next : Int} {cols : List Col} : ∀ n, okUpto next cols n = true ↔ ∀ i, i < n → okAt next cols i = true
  | 0 => by simp [okUpto]
  | n + 1 => by
    rw [okUpto, Bool.and_eq_true, okUpto_all n]
    constructor
    · rintro ⟨h1, h2⟩ i hi
      by_cases e : i = n
      · subst e; exact h2
      · exact h1 i (by omega)
    · exact fun h => ⟨fun i hi => h i (by omega), h n (by omega)⟩
theorem okAt_iff {next : Int} {cols : List Col} {i : Nat} (hi : i < cols.length) : okAt next cols i = true ↔ colOk next cols[i] = true ∧ ∀ j (hj : j < i), clash cols[i] cols[j] = false := by
  have hc : cols[i]? = some cols[i] := List.getElem?_eq_getElem hi
  simp only [okAt, hc, Bool.and_eq_true, Bool.not_eq_true']
  refine and_congr_right fun _ => ?_
  rw [List.any_eq_false]
  constructor
  · intro h j hj
    have := h cols[j] (List.mem_take_iff_getElem.2 ⟨j, by omega, rfl⟩)
    simpa using this
  · intro h x hx
    obtain ⟨j, hj, rfl⟩ := List.mem_take_iff_getElem.1 hx
    simpa using h j (by omega)
/-- The columns that may stand together. -/
def Wf (next : Int) (cols : List Col) : Prop := (∀ c ∈ cols, colOk next c = true) ∧ cols.Pairwise fun d c => clash c d = false
theorem okUpto_iff {next : Int} {cols : List Col} : okUpto next cols cols.length = true ↔ Wf next cols := by
  rw [okUpto_all, Wf, List.pairwise_iff_getElem]
  constructor
  · intro h
    refine ⟨fun c hc => ?_, fun i j hi hj hij => ((okAt_iff hj).1 (h j hj)).2 i hij⟩
    obtain ⟨i, hi, rfl⟩ := List.mem_iff_getElem.1 hc
    exact ((okAt_iff hi).1 (h i hi)).1
  · rintro ⟨h1, h2⟩ i hi
    exact (okAt_iff hi).2 ⟨h1 _ (List.getElem_mem hi), fun j hj => h2 j i (by omega) hi hj⟩
theorem mayB_iff {s : Sch} : mayB s = true ↔ headOk s ∧ Wf s.next s.cols := by
  rw [mayB, Bool.and_eq_true, decide_eq_true_eq, okUpto_iff]
theorem colOk_le {n m : Int} {c : Col} (h : colOk n c = true) (hm : n ≤ m) : colOk m c = true := by
  obtain ⟨a, b, c, d⟩ := colOk_inv h
  exact colOk_yes a (by omega) c d
theorem clash_iff {c d : Col} : clash c d = false ↔ d.id ≠ c.id ∧ d.name.toList ≠ c.name.toList := by
  simp [clash]

theorem idx_none {α : Type} {p : α → Bool} {l : List α} (h : idx p l < 0) : ∀ x ∈ l, p x = false := by
  intro x hx
  unfold idx at h
  split at h
  · omega
  · rename_i hl
    cases e : p x with
    | false => rfl
    | true => exact absurd (List.findIdx_lt_length_of_exists ⟨x, hx, e⟩) hl

theorem add_ok {s : Sch} {nm : ByteArray} {k : Int} (h : mayB s = true) (h1 : nameB nm = true) (h2 : ¬ 0 ≤ idx (named nm) s.cols) (h3 : kindB k = true) (h4 : ¬ 12 ≤ s.cols.length) (h5 : s.id < 2147483647) (h6 : s.next < 2147483647) :
    mayB ⟨s.id + 1, s.cols ++ [⟨s.next, nm, k⟩], s.next + 1⟩ = true := by
  obtain ⟨⟨a, b, c, d, e, f⟩, g1, g2⟩ := mayB_iff.1 h
  have hn := idx_none (p := named nm) (l := s.cols) (by omega)
  refine mayB_iff.2 ⟨⟨by simp; omega, by simp; omega, by simp, by simp; omega, by simp; omega, by simp; omega⟩, ?_, ?_⟩
  · intro x hx
    rcases List.mem_append.1 hx with hx | hx
    · exact colOk_le (g1 x hx) (by simp; omega)
    · simp at hx
      subst hx
      exact colOk_yes (by simp; omega) (by simp; omega) h1 h3
  · rw [List.pairwise_append]
    refine ⟨g2, by simp, fun x hx y hy => ?_⟩
    simp at hy
    subst hy
    obtain ⟨_, hlt, _, _⟩ := colOk_inv (g1 x hx)
    have := hn x hx
    simp only [named, beq_eq_false_iff_ne] at this
    exact clash_iff.2 ⟨by simp; omega, this⟩

theorem drop_ok {s : Sch} {j : Nat} (h : mayB s = true) (h3 : ¬ s.cols.length = 1) (h5 : s.id < 2147483647) : mayB ⟨s.id + 1, s.cols.eraseIdx j, s.next⟩ = true := by
  obtain ⟨⟨a, b, c, d, e, f⟩, g1, g2⟩ := mayB_iff.1 h
  have hs := List.eraseIdx_sublist s.cols j
  have hl := hs.length_le
  have hl2 : s.cols.length - 1 ≤ (s.cols.eraseIdx j).length := by rw [List.length_eraseIdx]; split <;> omega
  exact mayB_iff.2 ⟨⟨by simp; omega, by simp; omega, by simp only; omega, by simp only; omega, e, f⟩, fun x hx => g1 x (hs.subset hx), g2.sublist hs⟩

theorem setName_get {cols : List Col} {j i : Nat} {to : ByteArray} (hi : i < (setName cols j to).length) (hi' : i < cols.length) : (setName cols j to)[i] = if j = i then { cols[i] with name := to } else cols[i] := by
  simp only [setName, List.getElem_modify]

theorem rename_ok {s : Sch} {j : Nat} {to : ByteArray} (h : mayB s = true) (hj : j < s.cols.length) (h1 : nameB to = true) (h2 : ¬ (0 ≤ idx (named to) s.cols ∧ idx (named to) s.cols ≠ (j : Int))) (h5 : s.id < 2147483647) :
    mayB ⟨s.id + 1, setName s.cols j to, s.next⟩ = true := by
  obtain ⟨⟨a, b, c, d, e, f⟩, g1, g2⟩ := mayB_iff.1 h
  have hlen : (setName s.cols j to).length = s.cols.length := by simp [setName]
  have key : ∀ i (hi : i < s.cols.length), i ≠ j → s.cols[i].name.toList ≠ to.toList := by
    intro i hi hij
    by_cases hx : 0 ≤ idx (named to) s.cols
    · obtain ⟨e1, e2⟩ := idx_yes hx
      have e3 : s.cols.findIdx (named to) = j := by omega
      have e4 : named to s.cols[j] = true := by
        have := List.findIdx_getElem (xs := s.cols) (p := named to) (w := e2)
        simpa [e3] using this
      simp only [named, beq_iff_eq] at e4
      rw [← e4]
      rw [List.pairwise_iff_getElem] at g2
      rcases Nat.lt_or_ge i j with hlt | hge
      · exact (clash_iff.1 (g2 i j hi hj hlt)).2
      · exact fun x => (clash_iff.1 (g2 j i hj hi (by omega))).2 x.symm
    · have := idx_none (p := named to) (l := s.cols) (by omega) s.cols[i] (List.getElem_mem hi)
      simpa [named] using this
  refine mayB_iff.2 ⟨⟨by simp; omega, by simp; omega, by simp only; omega, by simp only; omega, e, f⟩, fun x hx => ?_, ?_⟩
  · obtain ⟨i, hi, rfl⟩ := List.mem_iff_getElem.1 hx
    have hi' : i < s.cols.length := by simpa [setName] using hi
    rw [setName_get hi hi']
    obtain ⟨k1, k2, k3, k4⟩ := colOk_inv (g1 s.cols[i] (List.getElem_mem _))
    split
    · exact colOk_yes k1 k2 h1 k4
    · exact colOk_yes k1 k2 k3 k4
  · rw [List.pairwise_iff_getElem] at g2 ⊢
    intro i1 i2 hi1 hi2 hlt
    have hj1 : i1 < s.cols.length := by simpa [setName] using hi1
    have hj2 : i2 < s.cols.length := by simpa [setName] using hi2
    have q := clash_iff.1 (g2 i1 i2 (by omega) (by omega) hlt)
    rw [setName_get hi1 hj1, setName_get hi2 hj2]
    refine clash_iff.2 ⟨?_, ?_⟩
    · split <;> split <;> exact q.1
    · split
      · rename_i hji1
        rw [if_neg (by omega)]
        exact fun x => key i2 (by omega) (by omega) x.symm
      · split
        · exact key i1 (by omega) (by omega)
        · exact q.2
theorem addR_over {s : Sch} {nm : ByteArray} {k : Int} (h : mayB s = true) (h1 : nameB nm = true) (h2 : ¬ 0 ≤ idx (named nm) s.cols) (h3 : kindB k = true) (h4 : ¬ 12 ≤ s.cols.length) (h5 : 2147483647 ≤ s.id ∨ 2147483647 ≤ s.next) : addR s nm k = (Sch.zero, 1200) := by
  have : mayB ⟨s.id + 1, s.cols ++ [⟨s.next, nm, k⟩], s.next + 1⟩ = false := by
    cases e : mayB ⟨s.id + 1, s.cols ++ [⟨s.next, nm, k⟩], s.next + 1⟩ with
    | false => rfl
    | true => obtain ⟨⟨_, a, _, _, _, b⟩, _⟩ := mayB_iff.1 e; simp at a b; omega
  simp [addR, h, h1, h2, h3, h4, nextR, this]
theorem addR_ok {s : Sch} {nm : ByteArray} {k : Int} (h : mayB s = true) (h1 : nameB nm = true) (h2 : ¬ 0 ≤ idx (named nm) s.cols) (h3 : kindB k = true) (h4 : ¬ 12 ≤ s.cols.length) (h5 : s.id < 2147483647) (h6 : s.next < 2147483647) :
    addR s nm k = (⟨s.id + 1, s.cols ++ [⟨s.next, nm, k⟩], s.next + 1⟩, 0) := by
  simp [addR, h, h1, h2, h3, h4, nextR, add_ok h h1 h2 h3 h4 h5 h6]
theorem dropR_over {s : Sch} {nm : ByteArray} (h : mayB s = true) (h2 : ¬ idx (named nm) s.cols < 0) (h3 : ¬ s.cols.length = 1) (h5 : 2147483647 ≤ s.id) : dropR s nm = (Sch.zero, 1200) := by
  have : ∀ c, mayB ⟨s.id + 1, c, s.next⟩ = false := by
    intro c
    cases e : mayB ⟨s.id + 1, c, s.next⟩ with
    | false => rfl
    | true => obtain ⟨⟨_, a, _, _, _, b⟩, _⟩ := mayB_iff.1 e; simp at a; omega
  simp [dropR, h, h2, h3, nextR, this]
theorem dropR_ok {s : Sch} {nm : ByteArray} (h : mayB s = true) (h2 : ¬ idx (named nm) s.cols < 0) (h3 : ¬ s.cols.length = 1) (h5 : s.id < 2147483647) : dropR s nm = (⟨s.id + 1, s.cols.eraseIdx (s.cols.findIdx (named nm)), s.next⟩, 0) := by
  simp [dropR, h, h2, h3, nextR, drop_ok h h3 h5]
theorem renameR_over {s : Sch} {nm to : ByteArray} (h : mayB s = true) (h2 : ¬ idx (named nm) s.cols < 0) (h1 : nameB to = true) (h3 : ¬ (0 ≤ idx (named to) s.cols ∧ idx (named to) s.cols ≠ idx (named nm) s.cols)) (h5 : 2147483647 ≤ s.id) : renameR s nm to = (Sch.zero, 1200) := by
  have : ∀ c, mayB ⟨s.id + 1, c, s.next⟩ = false := by
    intro c
    cases e : mayB ⟨s.id + 1, c, s.next⟩ with
    | false => rfl
    | true => obtain ⟨⟨_, a, _, _, _, b⟩, _⟩ := mayB_iff.1 e; simp at a; omega
  unfold renameR
  rw [if_neg (by rw [h]; decide), if_neg h2, if_neg (by rw [h1]; decide), if_neg h3, nextR, if_neg (by rw [this]; decide)]
theorem renameR_ok {s : Sch} {nm to : ByteArray} (h : mayB s = true) (h2 : ¬ idx (named nm) s.cols < 0) (h1 : nameB to = true) (h3 : ¬ (0 ≤ idx (named to) s.cols ∧ idx (named to) s.cols ≠ idx (named nm) s.cols)) (h5 : s.id < 2147483647) :
    renameR s nm to = (⟨s.id + 1, setName s.cols (s.cols.findIdx (named nm)) to, s.next⟩, 0) := by
  obtain ⟨e1, e2⟩ := idx_yes (p := named nm) (l := s.cols) (by omega)
  unfold renameR
  rw [if_neg (by rw [h]; decide), if_neg h2, if_neg (by rw [h1]; decide), if_neg h3, nextR, if_pos (rename_ok h e2 h1 (by rw [← e1]; exact h3) h5)]
end Go.Proofs.YtinpnginjpfbpaaDoor
