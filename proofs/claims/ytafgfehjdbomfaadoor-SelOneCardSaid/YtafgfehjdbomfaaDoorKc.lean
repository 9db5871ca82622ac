/-
  Plain: one row more among rows in order.
-/
import Derived.Test.YtafgfehjdbomfaaDoorCv
namespace Go.Proofs.YtafgfehjdbomfaaDoor
open Go.RowKit

def insL (x : List Val) (a : List (List Val)) : List (List Val) := a.takeWhile (fun y => !lessL x y) ++ x :: a.dropWhile (fun y => !lessL x y)
theorem dropWhile_head {α : Type} (p : α → Bool) : ∀ (l : List α) (d : α) (r : List α), l.dropWhile p = d :: r → p d = false
  | [], d, r, h => by simp at h
  | x :: l, d, r, h => by
    rw [List.dropWhile_cons] at h
    split at h
    · exact dropWhile_head p l d r h
    · rename_i hx
      injection h with h1 _
      subst h1
      simpa using hx
theorem takeWhile_all {α : Type} (p : α → Bool) : ∀ (l : List α) (y : α), y ∈ l.takeWhile p → p y = true
  | [], y, h => by simp at h
  | x :: l, y, h => by
    rw [List.takeWhile_cons] at h
    split at h
    · rename_i hx
      rcases List.mem_cons.1 h with rfl | h
      · exact hx
      · exact takeWhile_all p l y h
    · simp at h
theorem insL_asc {x : List Val} {a : List (List Val)} (h : Asc lessL a) : Asc lessL (insL x a) := by
  have e := List.takeWhile_append_dropWhile (p := fun y => !lessL x y) (l := a)
  unfold Asc at h ⊢
  rw [← e] at h
  obtain ⟨h1, h2, h3⟩ := List.pairwise_append.1 h
  unfold insL
  have hd : ∀ z ∈ a.dropWhile (fun y => !lessL x y), lessL z x = false := by
    cases hq : a.dropWhile (fun y => !lessL x y) with
    | nil => simp
    | cons d r =>
      rw [hq] at h2
      have hdx : lessL x d = true := by simpa using dropWhile_head _ _ _ _ hq
      have hdx2 := lessL_asym _ _ hdx
      intro z hz
      rcases List.mem_cons.1 hz with rfl | hz
      · exact hdx2
      · exact lessL_tr _ _ _ hdx2 ((List.pairwise_cons.1 h2).1 z hz)
  rw [List.pairwise_append]
  refine ⟨h1, List.pairwise_cons.2 ⟨hd, h2⟩, fun y hy z hz => ?_⟩
  rcases List.mem_cons.1 hz with rfl | hz
  · simpa using takeWhile_all _ _ _ hy
  · exact h3 y hy z hz
/-- Where a row more stands among rows in order. -/
theorem one_more {x : List Val} {a b : List (List Val)} (ha : Asc lessL a) (hb : Asc lessL b) (hp : b.Perm (a ++ [x])) (hc : ∀ y ∈ b, Pure y) :
    ∃ j, j ≤ a.length ∧ b = a.take j ++ x :: a.drop j ∧ (∀ d, a[j]? = some d → d ≠ x) := by
  have e := List.takeWhile_append_dropWhile (p := fun y => !lessL x y) (l := a)
  have hperm : b.Perm (insL x a) := by
    refine hp.trans ?_
    unfold insL
    refine List.perm_append_comm.trans (List.Perm.trans ?_ List.perm_middle.symm)
    rw [e]
    exact List.Perm.refl _
  have hbe : b = insL x a := sorted_one hb (insL_asc ha) hperm hc
  have hl : (a.takeWhile (fun y => !lessL x y)).length ≤ a.length := by
    have := congrArg List.length e
    rw [List.length_append] at this
    omega
  refine ⟨(a.takeWhile (fun y => !lessL x y)).length, hl, ?_, fun d hd => ?_⟩
  · rw [hbe, insL]
    have h1 : a.take (a.takeWhile (fun y => !lessL x y)).length = a.takeWhile (fun y => !lessL x y) := by
      conv => lhs; arg 2; rw [← e]
      rw [List.take_left]
    have h2 : a.drop (a.takeWhile (fun y => !lessL x y)).length = a.dropWhile (fun y => !lessL x y) := by
      conv => lhs; arg 2; rw [← e]
      rw [List.drop_left]
    rw [h1, h2]
  · have hz : lessL x d = true := by
      cases hq : a.dropWhile (fun y => !lessL x y) with
      | nil =>
        rw [hq, List.append_nil] at e
        rw [e] at hd
        rw [List.getElem?_eq_none (Nat.le_refl _)] at hd
        cases hd
      | cons z r =>
        have h2 : (a.takeWhile (fun y => !lessL x y) ++ a.dropWhile (fun y => !lessL x y))[(a.takeWhile (fun y => !lessL x y)).length]? = some d := by
          generalize a.takeWhile (fun y => !lessL x y) = T at *
          rw [e]; exact hd
        rw [List.getElem?_append_right (Nat.le_refl _), Nat.sub_self, hq] at h2
        have hz : lessL x z = true := by simpa using dropWhile_head _ _ _ _ hq
        simp at h2
        subst h2
        exact hz
    rintro rfl
    rw [lessL_irr] at hz
    cases hz
theorem lessL_clean_l : ∀ a b : List Val, lessL (a.map clean) b = lessL a b
  | [], b => rfl
  | x :: a, [] => rfl
  | x :: a, y :: b => by
    rw [List.map_cons]
    unfold lessL
    rw [lessV_clean_l, lessV_clean_r, lessL_clean_l a b]
theorem lessL_clean_r : ∀ a b : List Val, lessL a (b.map clean) = lessL a b
  | [], [] => rfl
  | [], y :: b => rfl
  | x :: a, [] => rfl
  | x :: a, y :: b => by
    rw [List.map_cons]
    unfold lessL
    rw [lessV_clean_l, lessV_clean_r, lessL_clean_r a b]
end Go.Proofs.YtafgfehjdbomfaaDoor
