/-
  Plain: heaps in lists, and what is taken out of them in order.
-/
import Derived.Test.YtafgfehjdbomfaaDoorBase
namespace Go.Proofs.YtafgfehjdbomfaaDoor

/-- x at i stands not behind y at j. -/
def LeAt {α : Type} (lt : α → α → Bool) (l : List α) (i j : Nat) : Prop := ∀ x y, l[i]? = some x → l[j]? = some y → lt y x = false
/-- lt is a strict order whose ties hang together. -/
structure Weak {α : Type} (lt : α → α → Bool) : Prop where
  irr : ∀ x, lt x x = false
  asym : ∀ x y, lt x y = true → lt y x = false
  tr : ∀ x y z, lt y x = false → lt z y = false → lt z x = false
def Child (k c : Nat) : Prop := c = 2 * k + 1 ∨ c = 2 * k + 2
/-- Each node from i0 on stands not behind its children below n. -/
def HeapFrom {α : Type} (lt : α → α → Bool) (l : List α) (n i0 : Nat) : Prop := ∀ k c, i0 ≤ k → c < n → Child k c → LeAt lt l k c
/-- The same but for node i; what stands above i stands not behind what stands below it. -/
structure HeapBut {α : Type} (lt : α → α → Bool) (l : List α) (n i0 i : Nat) : Prop where
  low : i0 ≤ i
  node : ∀ k c, i0 ≤ k → k ≠ i → c < n → Child k c → LeAt lt l k c
  over : ∀ c p, c < n → Child i c → i0 ≤ p → Child p i → LeAt lt l p c

def swp {α : Type} (l : List α) (i j : Nat) (x y : α) : List α := (l.set i y).set j x
theorem swp_len {α : Type} (l : List α) (i j : Nat) (x y : α) : (swp l i j x y).length = l.length := by simp [swp]
theorem swp_get {α : Type} {l : List α} {i j : Nat} {x y : α} (hi : l[i]? = some x) (hj : l[j]? = some y) (k : Nat) : (swp l i j x y)[k]? = if k = j then some x else if k = i then some y else l[k]? := by
  have h1 := (List.getElem?_eq_some_iff.1 hi).1
  have h2 := (List.getElem?_eq_some_iff.1 hj).1
  unfold swp
  rw [List.getElem?_set, List.getElem?_set]
  by_cases e1 : j = k
  · subst e1; simp [h2]
  · by_cases e2 : i = k
    · subst e2
      have : ¬ i = j := fun h => e1 h.symm
      simp [e1, this, h1]
    · have a : ¬ k = j := fun h => e1 h.symm
      have b : ¬ k = i := fun h => e2 h.symm
      simp [e1, e2, a, b]
theorem perm_head {α : Type} : ∀ (l : List α) (j : Nat) (x y : α), l[j]? = some y → (y :: l.set j x).Perm (x :: l)
  | [], j, x, y, h => by simp at h
  | z :: t, 0, x, y, h => by
    simp at h
    subst h
    exact List.Perm.swap _ _ _
  | z :: t, j + 1, x, y, h => by
    have ih := perm_head t j x y (by simpa using h)
    show (y :: z :: t.set j x).Perm (x :: z :: t)
    exact (List.Perm.swap z y _).trans ((ih.cons z).trans (List.Perm.swap x z t))
theorem perm_lt {α : Type} : ∀ (l : List α) (i j : Nat) (x y : α), i < j → l[i]? = some x → l[j]? = some y → (swp l i j x y).Perm l
  | [], i, j, x, y, _, h, _ => by simp at h
  | z :: t, 0, j + 1, x, y, _, h1, h2 => by
    simp at h1
    subst h1
    show (y :: t.set j z).Perm (z :: t)
    exact perm_head t j z y (by simpa using h2)
  | z :: t, i + 1, j + 1, x, y, h, h1, h2 => by
    have ih := perm_lt t i j x y (by omega) (by simpa using h1) (by simpa using h2)
    show (z :: swp t i j x y).Perm (z :: t)
    exact ih.cons z
theorem swp_perm {α : Type} {l : List α} {i j : Nat} {x y : α} (hi : l[i]? = some x) (hj : l[j]? = some y) : (swp l i j x y).Perm l := by
  rcases Nat.lt_trichotomy i j with h | h | h
  · exact perm_lt l i j x y h hi hj
  · subst h
    rw [hi] at hj
    injection hj with hj
    subst hj
    have e1 : (l.set i x) = l := by
      apply List.ext_getElem?
      intro k
      rw [List.getElem?_set]
      split
      · rename_i h
        subst h
        split
        · exact hi.symm
        · rename_i h; exact absurd (List.getElem?_eq_some_iff.1 hi).1 h
      · rfl
    simp only [swp, e1]
    exact List.Perm.refl l
  · have e : swp l i j x y = swp l j i y x := by
      unfold swp
      exact List.set_comm _ _ (by omega)
    rw [e]
    exact perm_lt l j i y x h hj hi

variable {α : Type} {lt : α → α → Bool}
theorem HeapBut.swap (hw : Weak lt) {l : List α} {n i0 i j : Nat} {x y : α} (h : HeapBut lt l n i0 i) (hi : l[i]? = some x) (hj : l[j]? = some y) (hc : Child i j) (hjn : j < n) (hmin : ∀ c, c < n → Child i c → LeAt lt l j c) (hlt : lt y x = true) :
    HeapBut lt (swp l i j x y) n i0 j := by
  have low := h.low
  have hij : i < j := by unfold Child at hc; omega
  refine ⟨by omega, fun k c hk hkj hcn hch a b ha hb => ?_, fun c p hcn hch hp hpj a b ha hb => ?_⟩
  · rw [swp_get hi hj] at ha hb
    by_cases hki : k = i
    · subst hki
      rw [if_neg hkj, if_pos rfl] at ha
      injection ha with ha
      subst ha
      by_cases hcj : c = j
      · rw [if_pos hcj] at hb
        injection hb with hb
        subst hb
        exact hw.asym _ _ hlt
      · have hck : c ≠ k := by unfold Child at hch; omega
        rw [if_neg hcj, if_neg hck] at hb
        exact hmin c hcn hch _ _ hj hb
    · rw [if_neg hkj, if_neg hki] at ha
      by_cases hci : c = i
      · subst hci
        have : c ≠ j := by omega
        rw [if_neg this, if_pos rfl] at hb
        injection hb with hb
        subst hb
        exact h.over j k hjn hc hk hch _ _ ha hj
      · have hcj : c ≠ j := by unfold Child at hch hc; omega
        rw [if_neg hcj, if_neg hci] at hb
        exact h.node k c hk hki hcn hch _ _ ha hb
  · rw [swp_get hi hj] at ha hb
    have hpi : p = i := by unfold Child at hpj hc; omega
    subst hpi
    have hpj' : p ≠ j := by omega
    rw [if_neg hpj', if_pos rfl] at ha
    injection ha with ha
    subst ha
    have hcj : c ≠ j := by unfold Child at hch; omega
    have hcp : c ≠ p := by unfold Child at hch; omega
    rw [if_neg hcj, if_neg hcp] at hb
    exact h.node j c (by omega) (by omega) hcn hch _ _ hj hb
theorem HeapBut.stop {l : List α} {n i0 i : Nat} (h : HeapBut lt l n i0 i) (hs : ∀ c, c < n → Child i c → LeAt lt l i c) : HeapFrom lt l n i0 := by
  intro k c hk hcn hch
  by_cases e : k = i
  · subst e; exact hs c hcn hch
  · exact h.node k c hk e hcn hch
theorem heap_min (hw : Weak lt) {l : List α} {n : Nat} (h : HeapFrom lt l n 0) (hn : n ≤ l.length) : ∀ k, k < n → LeAt lt l 0 k := by
  intro k
  induction k using Nat.strongRecOn with
  | _ k ih =>
    intro hk x y hx hy
    rcases Nat.eq_zero_or_pos k with e | e
    · subst e
      rw [hx] at hy
      injection hy with hy
      subst hy
      exact hw.irr _
    · obtain ⟨z, hz⟩ : ∃ z, l[(k - 1) / 2]? = some z := ⟨_, List.getElem?_eq_getElem (by omega)⟩
      have h1 := ih ((k - 1) / 2) (by omega) (by omega) x z hx hz
      have h2 := h ((k - 1) / 2) k (by omega) hk (by unfold Child; omega) z y hz hy
      exact hw.tr x z y h1 h2
theorem heap_leaf {l : List α} {n i : Nat} (hi : n ≤ 2 * i + 1) : HeapFrom lt l n i := by
  intro k c hk hc hch
  unfold Child at hch
  omega
theorem heap_but {l : List α} {n i : Nat} (h : HeapFrom lt l n (i + 1)) : HeapBut lt l n i i :=
  ⟨Nat.le_refl _, fun k c hk hne hc hch => h k c (by omega) hc hch, fun c p _ _ hp hch => by unfold Child at hch; omega⟩
/-- The last in the first's place: all but the first node stand. -/
theorem heap_pop {l : List α} {n : Nat} {x y : α} (h : HeapFrom lt l (n + 1) 0) (hx : l[0]? = some x) (hy : l[n]? = some y) : HeapBut lt (swp l 0 n x y) n 0 0 := by
  refine ⟨Nat.le_refl _, fun k c _ hne hc hch a b ha hb => ?_, fun c p _ _ _ hch => by unfold Child at hch; omega⟩
  have h1 : c ≠ 0 := by unfold Child at hch; omega
  have h2 : k ≠ n := by unfold Child at hch; omega
  have h3 : c ≠ n := by omega
  rw [swp_get hx hy, if_neg h2, if_neg hne] at ha
  rw [swp_get hx hy, if_neg h3, if_neg h1] at hb
  exact h k c (Nat.zero_le _) (by omega) hch _ _ ha hb
theorem heap_take {l : List α} {n : Nat} (h : HeapFrom lt l n 0) : HeapFrom lt (l.take n) n 0 := by
  intro k c hk hc hch a b ha hb
  have hck : k < n := by unfold Child at hch; omega
  rw [List.getElem?_take, if_pos hck] at ha
  rw [List.getElem?_take, if_pos hc] at hb
  exact h k c hk hc hch _ _ ha hb

/-- In order. -/
def Asc (lt : α → α → Bool) (l : List α) : Prop := l.Pairwise fun x y => lt y x = false
theorem asc_snoc {l : List α} {x : α} (h : Asc lt l) (hx : ∀ y ∈ l, lt x y = false) : Asc lt (l ++ [x]) := by
  unfold Asc at *
  rw [List.pairwise_append]
  exact ⟨h, by simp, fun a ha b hb => by simp at hb; subst hb; exact hx a ha⟩
/-- What is in order and has the same elements is one list, where ties are equal. -/
theorem asc_unique (hw : Weak lt) (heq : ∀ x y, lt x y = false → lt y x = false → x = y) : ∀ {a b : List α}, Asc lt a → Asc lt b → a.Perm b → a = b
  | [], b, _, _, hp => by have := hp.symm.eq_nil; exact this.symm
  | x :: a, [], _, _, hp => by have := hp.eq_nil; exact this
  | x :: a, y :: b, ha, hb, hp => by
    have h1 := List.pairwise_cons.1 ha
    have h2 := List.pairwise_cons.1 hb
    have exy : x = y := by
      have m1 : x ∈ y :: b := hp.mem_iff.1 (by simp)
      have m2 : y ∈ x :: a := hp.mem_iff.2 (by simp)
      rcases List.mem_cons.1 m1 with e | e
      · exact e
      · rcases List.mem_cons.1 m2 with e2 | e2
        · exact e2.symm
        · exact heq x y (h2.1 x e) (h1.1 y e2)
    subst exy
    rw [asc_unique hw heq h1.2 h2.2 (List.Perm.cons_inv hp)]
/-- What has been taken out, and what is left. -/
structure Taken (lt : α → α → Bool) (all out l : List α) : Prop where
  asc : Asc lt out
  sep : ∀ x ∈ out, ∀ y ∈ l, lt y x = false
  perm : (out ++ l).Perm all
theorem Taken.pop {all out l l' : List α} {x : α} (h : Taken lt all out l) (hp : l.Perm (l' ++ [x])) (hm : ∀ y ∈ l, lt y x = false) : Taken lt all (out ++ [x]) l' := by
  have hx : x ∈ l := hp.mem_iff.2 (by simp)
  have hl : ∀ y ∈ l', y ∈ l := fun y hy => hp.mem_iff.2 (by simp [hy])
  refine ⟨asc_snoc h.asc fun y hy => h.sep y hy x hx, fun a ha y hy => ?_, ?_⟩
  · rcases List.mem_append.1 ha with ha | ha
    · exact h.sep a ha y (hl y hy)
    · simp at ha
      subst ha
      exact hm y (hl y hy)
  · refine List.Perm.trans ?_ h.perm
    rw [List.append_assoc]
    exact (List.Perm.append_left out (List.perm_append_comm.trans hp.symm))
theorem taken_nil {l : List α} : Taken lt l [] l := ⟨List.Pairwise.nil, by simp, List.Perm.refl _⟩
theorem heap_least (hw : Weak lt) {l : List α} {x : α} (h : HeapFrom lt l l.length 0) (hx : l[0]? = some x) : ∀ y ∈ l, lt y x = false := by
  intro y hy
  obtain ⟨k, hk, e⟩ := List.getElem_of_mem hy
  exact heap_min hw h (Nat.le_refl _) k hk x y hx (by rw [List.getElem?_eq_getElem hk, e])
/-- Two lists in order, merged: what has been taken of each. -/
theorem asc_drop {l : List α} {k : Nat} {x : α} (h : Asc lt l) (hx : l[k]? = some x) (hw : Weak lt) : ∀ y ∈ l.drop k, lt y x = false := by
  intro y hy
  obtain ⟨hk, e⟩ := List.getElem?_eq_some_iff.1 hx
  rw [List.drop_eq_getElem_cons hk, e] at hy
  rcases List.mem_cons.1 hy with q | q
  · subst q; exact hw.irr _
  · have h2 := (List.pairwise_append.1 (by rw [← List.take_append_drop k l] at h; exact h)).2.1
    rw [List.drop_eq_getElem_cons hk, e] at h2
    exact (List.pairwise_cons.1 h2).1 y q
end Go.Proofs.YtafgfehjdbomfaaDoor
