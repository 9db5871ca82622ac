/-
  Plain: two lists in order, merged.
-/
import Derived.Test.YtafgfehjdbomfaaDoorHp
namespace Go.Proofs.YtafgfehjdbomfaaDoor

variable {α : Type} {lt : α → α → Bool}
/-- i of a and k of b have been merged into out. -/
structure Mrg (lt : α → α → Bool) (a b out : List α) (i k : Nat) : Prop where
  asc : Asc lt out
  sep : ∀ x ∈ out, ∀ y ∈ a.drop i ++ b.drop k, lt y x = false
  perm : out.Perm (a.take i ++ b.take k)
theorem mrg_nil (a b : List α) : Mrg lt a b [] 0 0 := ⟨List.Pairwise.nil, by simp, by simp⟩
theorem mem_dropS {l : List α} {i : Nat} {x : α} (h : l[i]? = some x) : x ∈ l.drop i := by
  obtain ⟨hi, e⟩ := List.getElem?_eq_some_iff.1 h
  rw [List.drop_eq_getElem_cons hi, e]
  simp
theorem drop_memS {l : List α} {i : Nat} {y : α} (h : y ∈ l.drop (i + 1)) : y ∈ l.drop i := by
  rcases Nat.lt_or_ge i l.length with hi | hi
  · rw [List.drop_eq_getElem_cons hi]
    exact List.mem_cons_of_mem _ h
  · rw [List.drop_eq_nil_of_le (by omega)] at h
    simp at h
theorem Mrg.left (hw : Weak lt) {a b out : List α} {i k : Nat} {x : α} (h : Mrg lt a b out i k) (ha : Asc lt a) (hb : Asc lt b) (hx : a[i]? = some x) (hle : ∀ y, b[k]? = some y → lt y x = false) : Mrg lt a b (out ++ [x]) (i + 1) k := by
  have hxa := asc_drop ha hx hw
  have hxb : ∀ z ∈ b.drop k, lt z x = false := by
    intro z hz
    rcases Nat.lt_or_ge k b.length with hk | hk
    · have hy : b[k]? = some b[k] := List.getElem?_eq_getElem hk
      exact hw.tr x b[k] z (hle _ hy) (asc_drop hb hy hw z hz)
    · rw [List.drop_eq_nil_of_le hk] at hz
      simp at hz
  refine ⟨asc_snoc h.asc fun y hy => h.sep y hy x (List.mem_append.2 (.inl (mem_dropS hx))), fun z hz y hy => ?_, ?_⟩
  · rcases List.mem_append.1 hz with hz | hz
    · refine h.sep z hz y ?_
      rcases List.mem_append.1 hy with q | q
      · exact List.mem_append.2 (.inl (drop_memS q))
      · exact List.mem_append.2 (.inr q)
    · simp at hz
      subst hz
      rcases List.mem_append.1 hy with q | q
      · exact hxa y (drop_memS q)
      · exact hxb y q
  · rw [List.take_add_one, hx]
    refine (h.perm.append_right [x]).trans ?_
    simp only [Option.toList_some, List.append_assoc]
    exact List.Perm.append_left _ List.perm_append_comm
theorem Mrg.right (hw : Weak lt) {a b out : List α} {i k : Nat} {y : α} (h : Mrg lt a b out i k) (ha : Asc lt a) (hb : Asc lt b) (hy : b[k]? = some y) (hle : ∀ x, a[i]? = some x → lt x y = false) : Mrg lt a b (out ++ [y]) i (k + 1) := by
  have hyb := asc_drop hb hy hw
  have hya : ∀ z ∈ a.drop i, lt z y = false := by
    intro z hz
    rcases Nat.lt_or_ge i a.length with hi | hi
    · have hx : a[i]? = some a[i] := List.getElem?_eq_getElem hi
      exact hw.tr y a[i] z (hle _ hx) (asc_drop ha hx hw z hz)
    · rw [List.drop_eq_nil_of_le hi] at hz
      simp at hz
  refine ⟨asc_snoc h.asc fun x hx => h.sep x hx y (List.mem_append.2 (.inr (mem_dropS hy))), fun z hz x hx => ?_, ?_⟩
  · rcases List.mem_append.1 hz with hz | hz
    · refine h.sep z hz x ?_
      rcases List.mem_append.1 hx with q | q
      · exact List.mem_append.2 (.inl q)
      · exact List.mem_append.2 (.inr (drop_memS q))
    · simp at hz
      subst hz
      rcases List.mem_append.1 hx with q | q
      · exact hya x q
      · exact hyb x (drop_memS q)
  · rw [List.take_add_one, hy]
    refine (h.perm.append_right [y]).trans ?_
    simp only [Option.toList_some, List.append_assoc]
    exact List.Perm.refl _
theorem Mrg.done {a b out : List α} (h : Mrg lt a b out a.length b.length) : Asc lt out ∧ out.Perm (a ++ b) := ⟨h.asc, by have q := h.perm; rw [List.take_length, List.take_length] at q; exact q⟩
end Go.Proofs.YtafgfehjdbomfaaDoor
