/-
  Texts put together: Cm, Cv.
-/
import Derived.Deep.RegionHeld3
import Derived.Deep.RegionLaw
import Derived.Deep.Cut
import Derived.Deep.CutBlock
import Derived.Test.YtnphokhehacfnaaGreatDoorCz01
import Derived.Test.YtnphokhehacfnaaGreatDoorCz02
namespace Go.Proofs.YtnphokhehacfnaaGreatDoor
open Go.RowKit

theorem cmpV_lt {a b : Val} (h : lessV a b = true) : cmpV a b = -1 := by simp [cmpV, h]
theorem cmpV_gt {a b : Val} (h : lessV b a = true) : cmpV a b = 1 := by simp [cmpV, h, lessV_asymm h]
theorem cmpV_eq {a b : Val} (h : lessV a b = false) (h2 : lessV b a = false) : cmpV a b = 0 := by simp [cmpV, h, h2]
theorem lessV_kind {a b : Val} (h : kindV a ≠ kindV b) : lessV a b = decide (kindV a < kindV b) := by rw [lessV, if_pos h]
theorem lessV_one {a b : Val} (h : kindV a = kindV b) (h1 : kindV a = 1) : lessV a b = decide (a.i < b.i) := by rw [lessV, if_neg (by simpa using h), if_pos h1]
theorem lessV_two {a b : Val} (h : kindV a = kindV b) (h1 : kindV a = 2) : lessV a b = (!a.b && b.b) := by rw [lessV, if_neg (by simpa using h), if_neg (by omega), if_pos h1]
theorem lessV_three {a b : Val} (h : kindV a = kindV b) (h1 : kindV a = 3) : lessV a b = strLt a.s b.s := by rw [lessV, if_neg (by simpa using h), if_neg (by omega), if_neg (by omega), if_pos h1]
theorem lessV_zero {a b : Val} (h : kindV a = kindV b) (h1 : kindV a = 0) : lessV a b = false := by rw [lessV, if_neg (by simpa using h), if_neg (by omega), if_neg (by omega), if_neg (by omega)]

end Go.Proofs.YtnphokhehacfnaaGreatDoor

namespace Go.Proofs.YtnphokhehacfnaaGreatDoor

/-- x at i stands not behind y at j. -/
def LeAt {α : Type} (lt : α → α → Bool) (l : List α) (i j : Nat) : Prop := ∀ x y, l[i]? = some x → l[j]? = some y → lt y x = false
/-- lt is a strict order whose ties hang together. -/
structure Weak {α : Type} (lt : α → α → Bool) : Prop where
  irr : ∀ x, lt x x = false
  asym : ∀ x y, lt x y = true → lt y x = false
  tr : ∀ x y z, lt y x = false → lt z y = false → lt z x = false
def Child (k c : Nat) : Prop := c = 2 * k + 1 ∨ c = 2 * k + 2
/-- Each node from i0 on stands not behind its children below n. -/
def HeapFrom {α : Type} (lt : α → α → Bool) (l : List α) (n i0 : Nat) : Prop := ∀ k c, i0 ≤ k → c < n → Child k c → LeAt lt l k c
/-- The same but for node i; what stands above i stands not behind what stands below it. -/
structure HeapBut {α : Type} (lt : α → α → Bool) (l : List α) (n i0 i : Nat) : Prop where
  low : i0 ≤ i
  node : ∀ k c, i0 ≤ k → k ≠ i → c < n → Child k c → LeAt lt l k c
  over : ∀ c p, c < n → Child i c → i0 ≤ p → Child p i → LeAt lt l p c

def swp {α : Type} (l : List α) (i j : Nat) (x y : α) : List α := (l.set i y).set j x
theorem swp_len {α : Type} (l : List α) (i j : Nat) (x y : α) : (swp l i j x y).length = l.length := by simp [swp]
theorem swp_get {α : Type} {l : List α} {i j : Nat} {x y : α} (hi : l[i]? = some x) (hj : l[j]? = some y) (k : Nat) : (swp l i j x y)[k]? = if k = j then some x else if k = i then some y else l[k]? := by
  have h1 := (List.getElem?_eq_some_iff.1 hi).1
  have h2 := (List.getElem?_eq_some_iff.1 hj).1
  unfold swp
  rw [List.getElem?_set, List.getElem?_set]
  by_cases e1 : j = k
  · subst e1; simp [h2]
  · by_cases e2 : i = k
    · subst e2
      have : ¬ i = j := fun h => e1 h.symm
      simp [e1, this, h1]
    · have a : ¬ k = j := fun h => e1 h.symm
      have b : ¬ k = i := fun h => e2 h.symm
      simp [e1, e2, a, b]
theorem perm_head {α : Type} : ∀ (l : List α) (j : Nat) (x y : α), l[j]? = some y → (y :: l.set j x).Perm (x :: l)
  | [], j, x, y, h => by simp at h
  | z :: t, 0, x, y, h => by
    simp at h
    subst h
    exact List.Perm.swap _ _ _
  | z :: t, j + 1, x, y, h => by
    have ih := perm_head t j x y (by simpa using h)
    show (y :: z :: t.set j x).Perm (x :: z :: t)
    exact (List.Perm.swap z y _).trans ((ih.cons z).trans (List.Perm.swap x z t))
theorem perm_lt {α : Type} : ∀ (l : List α) (i j : Nat) (x y : α), i < j → l[i]? = some x → l[j]? = some y → (swp l i j x y).Perm l
  | [], i, j, x, y, _, h, _ => by simp at h
  | z :: t, 0, j + 1, x, y, _, h1, h2 => by
    simp at h1
    subst h1
    show (y :: t.set j z).Perm (z :: t)
    exact perm_head t j z y (by simpa using h2)
  | z :: t, i + 1, j + 1, x, y, h, h1, h2 => by
    have ih := perm_lt t i j x y (by omega) (by simpa using h1) (by simpa using h2)
    show (z :: swp t i j x y).Perm (z :: t)
    exact ih.cons z
theorem swp_perm {α : Type} {l : List α} {i j : Nat} {x y : α} (hi : l[i]? = some x) (hj : l[j]? = some y) : (swp l i j x y).Perm l := by
  rcases Nat.lt_trichotomy i j with h | h | h
  · exact perm_lt l i j x y h hi hj
  · subst h
    rw [hi] at hj
    injection hj with hj
    subst hj
    have e1 : (l.set i x) = l := by
      apply List.ext_getElem?
      intro k
      rw [List.getElem?_set]
      split
      · rename_i h
        subst h
        split
        · exact hi.symm
        · rename_i h; exact absurd (List.getElem?_eq_some_iff.1 hi).1 h
      · rfl
    simp only [swp, e1]
    exact List.Perm.refl l
  · have e : swp l i j x y = swp l j i y x := by
      unfold swp
      exact List.set_comm _ _ (by omega)
    rw [e]
    exact perm_lt l j i y x h hj hi

variable {α : Type} {lt : α → α → Bool}
theorem HeapBut.swap (hw : Weak lt) {l : List α} {n i0 i j : Nat} {x y : α} (h : HeapBut lt l n i0 i) (hi : l[i]? = some x) (hj : l[j]? = some y) (hc : Child i j) (hjn : j < n) (hmin : ∀ c, c < n → Child i c → LeAt lt l j c) (hlt : lt y x = true) :
    HeapBut lt (swp l i j x y) n i0 j := by
  have low := h.low
  have hij : i < j := by unfold Child at hc; omega
  refine ⟨by omega, fun k c hk hkj hcn hch a b ha hb => ?_, fun c p hcn hch hp hpj a b ha hb => ?_⟩
  · rw [swp_get hi hj] at ha hb
    by_cases hki : k = i
    · subst hki
      rw [if_neg hkj, if_pos rfl] at ha
      injection ha with ha
      subst ha
      by_cases hcj : c = j
      · rw [if_pos hcj] at hb
        injection hb with hb
        subst hb
        exact hw.asym _ _ hlt
      · have hck : c ≠ k := by unfold Child at hch; omega
        rw [if_neg hcj, if_neg hck] at hb
        exact hmin c hcn hch _ _ hj hb
    · rw [if_neg hkj, if_neg hki] at ha
      by_cases hci : c = i
      · subst hci
        have : c ≠ j := by omega
        rw [if_neg this, if_pos rfl] at hb
        injection hb with hb
        subst hb
        exact h.over j k hjn hc hk hch _ _ ha hj
      · have hcj : c ≠ j := by unfold Child at hch hc; omega
        rw [if_neg hcj, if_neg hci] at hb
        exact h.node k c hk hki hcn hch _ _ ha hb
  · rw [swp_get hi hj] at ha hb
    have hpi : p = i := by unfold Child at hpj hc; omega
    subst hpi
    have hpj' : p ≠ j := by omega
    rw [if_neg hpj', if_pos rfl] at ha
    injection ha with ha
    subst ha
    have hcj : c ≠ j := by unfold Child at hch; omega
    have hcp : c ≠ p := by unfold Child at hch; omega
    rw [if_neg hcj, if_neg hcp] at hb
    exact h.node j c (by omega) (by omega) hcn hch _ _ hj hb
theorem HeapBut.stop {l : List α} {n i0 i : Nat} (h : HeapBut lt l n i0 i) (hs : ∀ c, c < n → Child i c → LeAt lt l i c) : HeapFrom lt l n i0 := by
  intro k c hk hcn hch
  by_cases e : k = i
  · subst e; exact hs c hcn hch
  · exact h.node k c hk e hcn hch
theorem heap_min (hw : Weak lt) {l : List α} {n : Nat} (h : HeapFrom lt l n 0) (hn : n ≤ l.length) : ∀ k, k < n → LeAt lt l 0 k := by
  intro k
  induction k using Nat.strongRecOn with
  | _ k ih =>
    intro hk x y hx hy
    rcases Nat.eq_zero_or_pos k with e | e
    · subst e
      rw [hx] at hy
      injection hy with hy
      subst hy
      exact hw.irr _
    · obtain ⟨z, hz⟩ : ∃ z, l[(k - 1) / 2]? = some z := ⟨_, List.getElem?_eq_getElem (by omega)⟩
      have h1 := ih ((k - 1) / 2) (by omega) (by omega) x z hx hz
      have h2 := h ((k - 1) / 2) k (by omega) hk (by unfold Child; omega) z y hz hy
      exact hw.tr x z y h1 h2
theorem heap_leaf {l : List α} {n i : Nat} (hi : n ≤ 2 * i + 1) : HeapFrom lt l n i := by
  intro k c hk hc hch
  unfold Child at hch
  omega
theorem heap_but {l : List α} {n i : Nat} (h : HeapFrom lt l n (i + 1)) : HeapBut lt l n i i :=
  ⟨Nat.le_refl _, fun k c hk hne hc hch => h k c (by omega) hc hch, fun c p _ _ hp hch => by unfold Child at hch; omega⟩
/-- The last in the first's place: all but the first node stand. -/
theorem heap_pop {l : List α} {n : Nat} {x y : α} (h : HeapFrom lt l (n + 1) 0) (hx : l[0]? = some x) (hy : l[n]? = some y) : HeapBut lt (swp l 0 n x y) n 0 0 := by
  refine ⟨Nat.le_refl _, fun k c _ hne hc hch a b ha hb => ?_, fun c p _ _ _ hch => by unfold Child at hch; omega⟩
  have h1 : c ≠ 0 := by unfold Child at hch; omega
  have h2 : k ≠ n := by unfold Child at hch; omega
  have h3 : c ≠ n := by omega
  rw [swp_get hx hy, if_neg h2, if_neg hne] at ha
  rw [swp_get hx hy, if_neg h3, if_neg h1] at hb
  exact h k c (Nat.zero_le _) (by omega) hch _ _ ha hb
theorem heap_take {l : List α} {n : Nat} (h : HeapFrom lt l n 0) : HeapFrom lt (l.take n) n 0 := by
  intro k c hk hc hch a b ha hb
  have hck : k < n := by unfold Child at hch; omega
  rw [List.getElem?_take, if_pos hck] at ha
  rw [List.getElem?_take, if_pos hc] at hb
  exact h k c hk hc hch _ _ ha hb

/-- In order. -/
def Asc (lt : α → α → Bool) (l : List α) : Prop := l.Pairwise fun x y => lt y x = false
theorem asc_snoc {l : List α} {x : α} (h : Asc lt l) (hx : ∀ y ∈ l, lt x y = false) : Asc lt (l ++ [x]) := by
  unfold Asc at *
  rw [List.pairwise_append]
  exact ⟨h, by simp, fun a ha b hb => by simp at hb; subst hb; exact hx a ha⟩
/-- What has been taken out, and what is left. -/
structure Taken (lt : α → α → Bool) (all out l : List α) : Prop where
  asc : Asc lt out
  sep : ∀ x ∈ out, ∀ y ∈ l, lt y x = false
  perm : (out ++ l).Perm all
theorem Taken.pop {all out l l' : List α} {x : α} (h : Taken lt all out l) (hp : l.Perm (l' ++ [x])) (hm : ∀ y ∈ l, lt y x = false) : Taken lt all (out ++ [x]) l' := by
  have hx : x ∈ l := hp.mem_iff.2 (by simp)
  have hl : ∀ y ∈ l', y ∈ l := fun y hy => hp.mem_iff.2 (by simp [hy])
  refine ⟨asc_snoc h.asc fun y hy => h.sep y hy x hx, fun a ha y hy => ?_, ?_⟩
  · rcases List.mem_append.1 ha with ha | ha
    · exact h.sep a ha y (hl y hy)
    · simp at ha
      subst ha
      exact hm y (hl y hy)
  · refine List.Perm.trans ?_ h.perm
    rw [List.append_assoc]
    exact (List.Perm.append_left out (List.perm_append_comm.trans hp.symm))
theorem taken_nil {l : List α} : Taken lt l [] l := ⟨List.Pairwise.nil, by simp, List.Perm.refl _⟩
theorem heap_least (hw : Weak lt) {l : List α} {x : α} (h : HeapFrom lt l l.length 0) (hx : l[0]? = some x) : ∀ y ∈ l, lt y x = false := by
  intro y hy
  obtain ⟨k, hk, e⟩ := List.getElem_of_mem hy
  exact heap_min hw h (Nat.le_refl _) k hk x y hx (by rw [List.getElem?_eq_getElem hk, e])
/-- Two lists in order, merged: what has been taken of each. -/
theorem asc_drop {l : List α} {k : Nat} {x : α} (h : Asc lt l) (hx : l[k]? = some x) (hw : Weak lt) : ∀ y ∈ l.drop k, lt y x = false := by
  intro y hy
  obtain ⟨hk, e⟩ := List.getElem?_eq_some_iff.1 hx
  rw [List.drop_eq_getElem_cons hk, e] at hy
  rcases List.mem_cons.1 hy with q | q
  · subst q; exact hw.irr _
  · have h2 := (List.pairwise_append.1 (by rw [← List.take_append_drop k l] at h; exact h)).2.1
    rw [List.drop_eq_getElem_cons hk, e] at h2
    exact (List.pairwise_cons.1 h2).1 y q
end Go.Proofs.YtnphokhehacfnaaGreatDoor
namespace Go.Proofs.YtnphokhehacfnaaGreatDoor
open Go.RowKit

theorem bytesLess_tri : ∀ {a b : List UInt8}, Op.bytesLess a b = false → Op.bytesLess b a = false → a = b
  | [], [], _, _ => rfl
  | [], _ :: _, h, _ => by simp [Op.bytesLess] at h
  | _ :: _, [], _, h => by simp [Op.bytesLess] at h
  | x :: a, y :: b, h, h2 => by
    unfold Op.bytesLess at h h2
    by_cases h1 : x < y
    · simp [h1] at h
    by_cases h3 : y < x
    · simp [h3] at h2
    have e : x = y := by
      apply UInt8.toNat_inj.1
      have q1 : ¬ x.toNat < y.toNat := fun q => h1 (UInt8.lt_iff_toNat_lt.2 q)
      have q2 : ¬ y.toNat < x.toNat := fun q => h3 (UInt8.lt_iff_toNat_lt.2 q)
      omega
    simp [h1, h3] at h h2
    subst e
    rw [bytesLess_tri (a := a) (b := b)] <;> simp_all
theorem strLt_tri {a b : ByteArray} (h : strLt a b = false) (h2 : strLt b a = false) : a = b := by
  have q := bytesLess_tri h h2
  rw [ByteArray.toList_eq, ByteArray.toList_eq] at q
  apply ByteArray.ext
  exact Array.toList_inj.1 q
theorem clean_cases (v : Val) : (kindV v = 1 ∧ clean v = ⟨1, v.i, false, .empty⟩) ∨ (kindV v = 2 ∧ clean v = ⟨2, 0, v.b, .empty⟩) ∨ (kindV v = 3 ∧ clean v = ⟨3, 0, false, v.s⟩) ∨ (kindV v = 0 ∧ clean v = Val.zero) := by
  unfold kindV clean
  by_cases h1 : v.kind = 1
  · simp [h1]
  by_cases h2 : v.kind = 2
  · simp [h2]
  by_cases h3 : v.kind = 3
  · simp [h3]
  simp [h1, h2, h3]
theorem cmpV_clean_eq (a b : Val) : cmpV a b = 0 ↔ clean a = clean b := by
  constructor
  · intro h
    have hl : lessV a b = false := by
      cases e : lessV a b with
      | false => rfl
      | true => rw [cmpV_lt e] at h; cases h
    have hg : lessV b a = false := by
      cases e : lessV b a with
      | false => rfl
      | true => rw [cmpV_gt e] at h; cases h
    by_cases hk : kindV a = kindV b
    · rcases clean_cases a with ⟨k1, e1⟩ | ⟨k1, e1⟩ | ⟨k1, e1⟩ | ⟨k1, e1⟩ <;> rcases clean_cases b with ⟨k2, e2⟩ | ⟨k2, e2⟩ | ⟨k2, e2⟩ | ⟨k2, e2⟩ <;> first | (exfalso; omega) | skip
      · rw [lessV_one hk k1] at hl; rw [lessV_one hk.symm k2] at hg
        have := of_decide_eq_false hl; have := of_decide_eq_false hg
        rw [e1, e2, show a.i = b.i by omega]
      · rw [lessV_two hk k1] at hl; rw [lessV_two hk.symm k2] at hg
        rw [e1, e2]
        cases ha : a.b <;> cases hb : b.b <;> simp_all
      · rw [lessV_three hk k1] at hl; rw [lessV_three hk.symm k2] at hg
        rw [e1, e2, strLt_tri hl hg]
      · rw [e1, e2]
    · rw [lessV_kind hk] at hl; rw [lessV_kind (Ne.symm hk)] at hg
      have := of_decide_eq_false hl; have := of_decide_eq_false hg
      omega
  · intro e
    have h1 : lessV a b = lessV b a := by rw [← lessV_clean_l a b, e, lessV_clean_l, ← lessV_clean_r b b, ← e, lessV_clean_r]
    cases h : lessV a b with
    | true => have := lessV_asymm h; rw [h1] at h; rw [h] at this; cases this
    | false => exact cmpV_eq h (by rw [← h1]; exact h)
theorem bytesLess_tr : ∀ {a b c : List UInt8}, Op.bytesLess b a = false → Op.bytesLess c b = false → Op.bytesLess c a = false
  | [], [], c, _, h => h
  | [], y :: b, [], _, _ => by simp [Op.bytesLess] at *
  | [], y :: b, z :: c, _, _ => by simp [Op.bytesLess]
  | x :: a, [], _, h, _ => by simp [Op.bytesLess] at h
  | x :: a, y :: b, [], _, h => by simp [Op.bytesLess] at h
  | x :: a, y :: b, z :: c, h, h2 => by
    have ih := bytesLess_tr (a := a) (b := b) (c := c)
    unfold Op.bytesLess at h h2 ⊢
    simp only [Bool.or_eq_false_iff, decide_eq_false_iff_not, UInt8.lt_iff_toNat_lt, Bool.and_eq_false_iff, beq_eq_false_iff_ne] at h h2 ⊢
    refine ⟨by omega, ?_⟩
    by_cases e : z = x
    · subst e
      have e2 : y = z := UInt8.toNat_inj.1 (by omega)
      subst e2
      exact .inr (ih (h.2.resolve_left (by simp)) (h2.2.resolve_left (by simp)))
    · exact .inl e
theorem lessV_irr (a : Val) : lessV a a = false := by
  cases h : lessV a a with
  | false => rfl
  | true => have := lessV_asymm h; rw [h] at this; exact this
theorem kindV_cases (v : Val) : kindV v = 1 ∨ kindV v = 2 ∨ kindV v = 3 ∨ kindV v = 0 := by
  rcases clean_cases v with ⟨h, _⟩ | ⟨h, _⟩ | ⟨h, _⟩ | ⟨h, _⟩ <;> simp [h]
theorem lessV_tr {a b c : Val} (h : lessV b a = false) (h2 : lessV c b = false) : lessV c a = false := by
  by_cases e1 : kindV b = kindV a
  · by_cases e2 : kindV c = kindV b
    · rcases kindV_cases a with k | k | k | k
      · rw [lessV_one e1 (by omega)] at h; rw [lessV_one e2 (by omega)] at h2; rw [lessV_one (e2.trans e1) (by omega)]
        have := of_decide_eq_false h; have := of_decide_eq_false h2
        exact decide_eq_false (by omega)
      · rw [lessV_two e1 (by omega)] at h; rw [lessV_two e2 (by omega)] at h2; rw [lessV_two (e2.trans e1) (by omega)]
        cases ha : a.b <;> cases hb : b.b <;> cases hc : c.b <;> simp_all
      · rw [lessV_three e1 (by omega)] at h; rw [lessV_three e2 (by omega)] at h2; rw [lessV_three (e2.trans e1) (by omega)]
        exact bytesLess_tr h h2
      · rw [lessV_zero (e2.trans e1) (by omega)]
    · rw [lessV_kind e2] at h2
      rw [lessV_kind (by omega)]
      have := of_decide_eq_false h2
      exact decide_eq_false (by omega)
  · rw [lessV_kind e1] at h
    have := of_decide_eq_false h
    by_cases e2 : kindV c = kindV b
    · rw [lessV_kind (by omega)]
      exact decide_eq_false (by omega)
    · rw [lessV_kind e2] at h2
      have := of_decide_eq_false h2
      rw [lessV_kind (by omega)]
      exact decide_eq_false (by omega)
theorem lessV_tie {a b : Val} (h : lessV a b = false) (h2 : lessV b a = false) : clean a = clean b := (cmpV_clean_eq a b).1 (cmpV_eq h h2)
/-- Does a row stand ahead of another? -/
def lessL : List Val → List Val → Bool
  | [], b => !b.isEmpty
  | _ :: _, [] => false
  | x :: a, y :: b => if lessV x y then true else if lessV y x then false else lessL a b
theorem lessL_irr : ∀ a, lessL a a = false
  | [] => rfl
  | x :: a => by simp [lessL, lessV_irr, lessL_irr a]
theorem lessL_asym : ∀ a b, lessL a b = true → lessL b a = false
  | [], [], h => by simp [lessL] at h
  | [], y :: b, _ => rfl
  | x :: a, [], h => by simp [lessL] at h
  | x :: a, y :: b, h => by
    unfold lessL at h ⊢
    by_cases h1 : lessV x y = true
    · simp [lessV_asymm h1, h1]
    · by_cases h2 : lessV y x = true
      · simp [h1, h2] at h
      · simp only [h1, h2] at h ⊢
        simpa using lessL_asym a b (by simpa using h)
theorem lessL_tr : ∀ a b c, lessL b a = false → lessL c b = false → lessL c a = false
  | [], [], c, _, h => h
  | [], y :: b, [], _, h => by simp [lessL] at h
  | [], y :: b, z :: c, _, _ => rfl
  | x :: a, [], c, h, _ => by simp [lessL] at h
  | x :: a, y :: b, [], _, h => by simp [lessL] at h
  | x :: a, y :: b, z :: c, h, h2 => by
    have ih := lessL_tr a b c
    unfold lessL at h h2 ⊢
    cases e1 : lessV y x with
    | true => simp [e1] at h
    | false =>
      cases e2 : lessV z y with
      | true => simp [e2] at h2
      | false =>
        have e3 := lessV_tr e1 e2
        rw [if_neg (by simp [e3])]
        cases e4 : lessV x z with
        | true => rfl
        | false =>
          rw [if_neg (by simp)]
          have e5 : lessV x y = false := lessV_tr e2 e4
          have e6 : lessV y z = false := lessV_tr e4 e1
          rw [if_neg (by simp [e1]), if_neg (by simp [e5])] at h
          rw [if_neg (by simp [e2]), if_neg (by simp [e6])] at h2
          exact ih h h2
theorem lessL_weak : Weak lessL := ⟨lessL_irr, lessL_asym, lessL_tr⟩
theorem lessL_tie : ∀ {a b : List Val}, lessL a b = false → lessL b a = false → a.map clean = b.map clean
  | [], [], _, _ => rfl
  | [], y :: b, h, _ => by simp [lessL] at h
  | x :: a, [], _, h => by simp [lessL] at h
  | x :: a, y :: b, h, h2 => by
    unfold lessL at h h2
    cases e1 : lessV x y with
    | true => simp [e1] at h
    | false =>
      cases e2 : lessV y x with
      | true => simp [e2] at h2
      | false =>
        simp only [e1, e2] at h h2
        rw [List.map_cons, List.map_cons, lessV_tie e1 e2, lessL_tie (by simpa using h) (by simpa using h2)]
/-- A row whose values have nothing beside their kind. -/
def Pure (vs : List Val) : Prop := vs.map clean = vs
theorem clean_clean (v : Val) : clean (clean v) = clean v := by
  rcases clean_cases v with ⟨_, e⟩ | ⟨_, e⟩ | ⟨_, e⟩ | ⟨_, e⟩ <;> rw [e] <;> simp [clean, Val.zero]
/-- Lists in order of the same pure rows are one list. -/
theorem sorted_one {a b : List (List Val)} (ha : Asc lessL a) (hb : Asc lessL b) (hp : a.Perm b) (hc : ∀ x ∈ a, Pure x) : a = b := by
  have key : ∀ {a b : List (List Val)}, Asc lessL a → Asc lessL b → a.Perm b → (∀ x ∈ a, Pure x) → a = b := by
    intro a
    induction a with
    | nil => intro b _ _ hp _; exact hp.symm.eq_nil.symm
    | cons x a ih =>
      intro b ha hb hp hc
      cases b with
      | nil => exact hp.eq_nil
      | cons y b =>
        have h1 := List.pairwise_cons.1 ha
        have h2 := List.pairwise_cons.1 hb
        have exy : x = y := by
          have m1 : x ∈ y :: b := hp.mem_iff.1 (by simp)
          have m2 : y ∈ x :: a := hp.mem_iff.2 (by simp)
          rcases List.mem_cons.1 m1 with e | e
          · exact e
          · rcases List.mem_cons.1 m2 with e2 | e2
            · exact e2.symm
            · have q := lessL_tie (h2.1 x e) (h1.1 y e2)
              rw [show x.map clean = x from hc x (by simp), show y.map clean = y from hc y (by simp [e2])] at q
              exact q
        subst exy
        rw [ih h1.2 h2.2 (List.Perm.cons_inv hp) (fun z hz => hc z (by simp [hz]))]
  exact key ha hb hp hc
end Go.Proofs.YtnphokhehacfnaaGreatDoor

