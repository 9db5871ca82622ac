/-
  Plain: values and lists of values in order; rows held against rows.
-/
import Derived.Test.YtafgfehjdbomfaaDoorCm
import Derived.Test.YtafgfehjdbomfaaDoorHp
namespace Go.Proofs.YtafgfehjdbomfaaDoor
open Go.RowKit

theorem bytesLess_tri : ∀ {a b : List UInt8}, Op.bytesLess a b = false → Op.bytesLess b a = false → a = b
  | [], [], _, _ => rfl
  | [], _ :: _, h, _ => by simp [Op.bytesLess] at h
  | _ :: _, [], _, h => by simp [Op.bytesLess] at h
  | x :: a, y :: b, h, h2 => by
    unfold Op.bytesLess at h h2
    by_cases h1 : x < y
    · simp [h1] at h
    by_cases h3 : y < x
    · simp [h3] at h2
    have e : x = y := by
      apply UInt8.toNat_inj.1
      have q1 : ¬ x.toNat < y.toNat := fun q => h1 (UInt8.lt_iff_toNat_lt.2 q)
      have q2 : ¬ y.toNat < x.toNat := fun q => h3 (UInt8.lt_iff_toNat_lt.2 q)
      omega
    simp [h1, h3] at h h2
    subst e
    rw [bytesLess_tri (a := a) (b := b)] <;> simp_all
theorem strLt_tri {a b : ByteArray} (h : strLt a b = false) (h2 : strLt b a = false) : a = b := by
  have q := bytesLess_tri h h2
  rw [ByteArray.toList_eq, ByteArray.toList_eq] at q
  apply ByteArray.ext
  exact Array.toList_inj.1 q
theorem clean_cases (v : Val) : (kindV v = 1 ∧ clean v = ⟨1, v.i, false, .empty⟩) ∨ (kindV v = 2 ∧ clean v = ⟨2, 0, v.b, .empty⟩) ∨ (kindV v = 3 ∧ clean v = ⟨3, 0, false, v.s⟩) ∨ (kindV v = 0 ∧ clean v = Val.zero) := by
  unfold kindV clean
  by_cases h1 : v.kind = 1
  · simp [h1]
  by_cases h2 : v.kind = 2
  · simp [h2]
  by_cases h3 : v.kind = 3
  · simp [h3]
  simp [h1, h2, h3]
theorem cmpV_clean_eq (a b : Val) : cmpV a b = 0 ↔ clean a = clean b := by
  constructor
  · intro h
    have hl : lessV a b = false := by
      cases e : lessV a b with
      | false => rfl
      | true => rw [cmpV_lt e] at h; cases h
    have hg : lessV b a = false := by
      cases e : lessV b a with
      | false => rfl
      | true => rw [cmpV_gt e] at h; cases h
    by_cases hk : kindV a = kindV b
    · rcases clean_cases a with ⟨k1, e1⟩ | ⟨k1, e1⟩ | ⟨k1, e1⟩ | ⟨k1, e1⟩ <;> rcases clean_cases b with ⟨k2, e2⟩ | ⟨k2, e2⟩ | ⟨k2, e2⟩ | ⟨k2, e2⟩ <;> first | (exfalso; omega) | skip
      · rw [lessV_one hk k1] at hl; rw [lessV_one hk.symm k2] at hg
        have := of_decide_eq_false hl; have := of_decide_eq_false hg
        rw [e1, e2, show a.i = b.i by omega]
      · rw [lessV_two hk k1] at hl; rw [lessV_two hk.symm k2] at hg
        rw [e1, e2]
        cases ha : a.b <;> cases hb : b.b <;> simp_all
      · rw [lessV_three hk k1] at hl; rw [lessV_three hk.symm k2] at hg
        rw [e1, e2, strLt_tri hl hg]
      · rw [e1, e2]
    · rw [lessV_kind hk] at hl; rw [lessV_kind (Ne.symm hk)] at hg
      have := of_decide_eq_false hl; have := of_decide_eq_false hg
      omega
  · intro e
    have h1 : lessV a b = lessV b a := by rw [← lessV_clean_l a b, e, lessV_clean_l, ← lessV_clean_r b b, ← e, lessV_clean_r]
    cases h : lessV a b with
    | true => have := lessV_asymm h; rw [h1] at h; rw [h] at this; cases this
    | false => exact cmpV_eq h (by rw [← h1]; exact h)
theorem bytesLess_tr : ∀ {a b c : List UInt8}, Op.bytesLess b a = false → Op.bytesLess c b = false → Op.bytesLess c a = false
  | [], [], c, _, h => h
  | [], y :: b, [], _, _ => by simp [Op.bytesLess] at *
  | [], y :: b, z :: c, _, _ => by simp [Op.bytesLess]
  | x :: a, [], _, h, _ => by simp [Op.bytesLess] at h
  | x :: a, y :: b, [], _, h => by simp [Op.bytesLess] at h
  | x :: a, y :: b, z :: c, h, h2 => by
    have ih := bytesLess_tr (a := a) (b := b) (c := c)
    unfold Op.bytesLess at h h2 ⊢
    simp only [Bool.or_eq_false_iff, decide_eq_false_iff_not, UInt8.lt_iff_toNat_lt, Bool.and_eq_false_iff, beq_eq_false_iff_ne] at h h2 ⊢
    refine ⟨by omega, ?_⟩
    by_cases e : z = x
    · subst e
      have e2 : y = z := UInt8.toNat_inj.1 (by omega)
      subst e2
      exact .inr (ih (h.2.resolve_left (by simp)) (h2.2.resolve_left (by simp)))
    · exact .inl e
theorem bytesLess_irr : ∀ a : List UInt8, Op.bytesLess a a = false
  | [] => rfl
  | x :: a => by
    have ih := bytesLess_irr a
    unfold Op.bytesLess
    simp [ih]
theorem lessV_irr (a : Val) : lessV a a = false := by
  cases h : lessV a a with
  | false => rfl
  | true => have := lessV_asymm h; rw [h] at this; exact this
theorem kindV_cases (v : Val) : kindV v = 1 ∨ kindV v = 2 ∨ kindV v = 3 ∨ kindV v = 0 := by
  rcases clean_cases v with ⟨h, _⟩ | ⟨h, _⟩ | ⟨h, _⟩ | ⟨h, _⟩ <;> simp [h]
theorem lessV_tr {a b c : Val} (h : lessV b a = false) (h2 : lessV c b = false) : lessV c a = false := by
  by_cases e1 : kindV b = kindV a
  · by_cases e2 : kindV c = kindV b
    · rcases kindV_cases a with k | k | k | k
      · rw [lessV_one e1 (by omega)] at h; rw [lessV_one e2 (by omega)] at h2; rw [lessV_one (e2.trans e1) (by omega)]
        have := of_decide_eq_false h; have := of_decide_eq_false h2
        exact decide_eq_false (by omega)
      · rw [lessV_two e1 (by omega)] at h; rw [lessV_two e2 (by omega)] at h2; rw [lessV_two (e2.trans e1) (by omega)]
        cases ha : a.b <;> cases hb : b.b <;> cases hc : c.b <;> simp_all
      · rw [lessV_three e1 (by omega)] at h; rw [lessV_three e2 (by omega)] at h2; rw [lessV_three (e2.trans e1) (by omega)]
        exact bytesLess_tr h h2
      · rw [lessV_zero (e2.trans e1) (by omega)]
    · rw [lessV_kind e2] at h2
      rw [lessV_kind (by omega)]
      have := of_decide_eq_false h2
      exact decide_eq_false (by omega)
  · rw [lessV_kind e1] at h
    have := of_decide_eq_false h
    by_cases e2 : kindV c = kindV b
    · rw [lessV_kind (by omega)]
      exact decide_eq_false (by omega)
    · rw [lessV_kind e2] at h2
      have := of_decide_eq_false h2
      rw [lessV_kind (by omega)]
      exact decide_eq_false (by omega)
theorem lessV_tie {a b : Val} (h : lessV a b = false) (h2 : lessV b a = false) : clean a = clean b := (cmpV_clean_eq a b).1 (cmpV_eq h h2)
theorem lessV_same {a b : Val} (h : clean a = clean b) : lessV a b = false ∧ lessV b a = false := by
  have h0 := (cmpV_clean_eq a b).2 h
  constructor
  · cases e : lessV a b with
    | false => rfl
    | true => rw [cmpV_lt e] at h0; cases h0
  · cases e : lessV b a with
    | false => rfl
    | true => rw [cmpV_gt e] at h0; cases h0

/-- Does a row stand ahead of another? -/
def lessL : List Val → List Val → Bool
  | [], b => !b.isEmpty
  | _ :: _, [] => false
  | x :: a, y :: b => if lessV x y then true else if lessV y x then false else lessL a b
theorem lessL_irr : ∀ a, lessL a a = false
  | [] => rfl
  | x :: a => by simp [lessL, lessV_irr, lessL_irr a]
theorem lessL_asym : ∀ a b, lessL a b = true → lessL b a = false
  | [], [], h => by simp [lessL] at h
  | [], y :: b, _ => rfl
  | x :: a, [], h => by simp [lessL] at h
  | x :: a, y :: b, h => by
    unfold lessL at h ⊢
    by_cases h1 : lessV x y = true
    · simp [lessV_asymm h1, h1]
    · by_cases h2 : lessV y x = true
      · simp [h1, h2] at h
      · simp only [h1, h2] at h ⊢
        simpa using lessL_asym a b (by simpa using h)
theorem lessL_tr : ∀ a b c, lessL b a = false → lessL c b = false → lessL c a = false
  | [], [], c, _, h => h
  | [], y :: b, [], _, h => by simp [lessL] at h
  | [], y :: b, z :: c, _, _ => rfl
  | x :: a, [], c, h, _ => by simp [lessL] at h
  | x :: a, y :: b, [], _, h => by simp [lessL] at h
  | x :: a, y :: b, z :: c, h, h2 => by
    have ih := lessL_tr a b c
    unfold lessL at h h2 ⊢
    cases e1 : lessV y x with
    | true => simp [e1] at h
    | false =>
      cases e2 : lessV z y with
      | true => simp [e2] at h2
      | false =>
        have e3 := lessV_tr e1 e2
        rw [if_neg (by simp [e3])]
        cases e4 : lessV x z with
        | true => rfl
        | false =>
          rw [if_neg (by simp)]
          have e5 : lessV x y = false := lessV_tr e2 e4
          have e6 : lessV y z = false := lessV_tr e4 e1
          rw [if_neg (by simp [e1]), if_neg (by simp [e5])] at h
          rw [if_neg (by simp [e2]), if_neg (by simp [e6])] at h2
          exact ih h h2
theorem lessL_weak : Weak lessL := ⟨lessL_irr, lessL_asym, lessL_tr⟩
theorem lessL_tie : ∀ {a b : List Val}, lessL a b = false → lessL b a = false → a.map clean = b.map clean
  | [], [], _, _ => rfl
  | [], y :: b, h, _ => by simp [lessL] at h
  | x :: a, [], _, h => by simp [lessL] at h
  | x :: a, y :: b, h, h2 => by
    unfold lessL at h h2
    cases e1 : lessV x y with
    | true => simp [e1] at h
    | false =>
      cases e2 : lessV y x with
      | true => simp [e2] at h2
      | false =>
        simp only [e1, e2] at h h2
        rw [List.map_cons, List.map_cons, lessV_tie e1 e2, lessL_tie (by simpa using h) (by simpa using h2)]
/-- A row whose values have nothing beside their kind. -/
def Pure (vs : List Val) : Prop := vs.map clean = vs
theorem clean_clean (v : Val) : clean (clean v) = clean v := by
  rcases clean_cases v with ⟨_, e⟩ | ⟨_, e⟩ | ⟨_, e⟩ | ⟨_, e⟩ <;> rw [e] <;> simp [clean, Val.zero]
theorem pure_clean (vs : List Val) : Pure (vs.map clean) := by
  unfold Pure
  rw [List.map_map]
  exact List.map_congr_left fun v _ => clean_clean v
/-- Lists in order of the same pure rows are one list. -/
theorem sorted_one {a b : List (List Val)} (ha : Asc lessL a) (hb : Asc lessL b) (hp : a.Perm b) (hc : ∀ x ∈ a, Pure x) : a = b := by
  have key : ∀ {a b : List (List Val)}, Asc lessL a → Asc lessL b → a.Perm b → (∀ x ∈ a, Pure x) → a = b := by
    intro a
    induction a with
    | nil => intro b _ _ hp _; exact hp.symm.eq_nil.symm
    | cons x a ih =>
      intro b ha hb hp hc
      cases b with
      | nil => exact hp.eq_nil
      | cons y b =>
        have h1 := List.pairwise_cons.1 ha
        have h2 := List.pairwise_cons.1 hb
        have exy : x = y := by
          have m1 : x ∈ y :: b := hp.mem_iff.1 (by simp)
          have m2 : y ∈ x :: a := hp.mem_iff.2 (by simp)
          rcases List.mem_cons.1 m1 with e | e
          · exact e
          · rcases List.mem_cons.1 m2 with e2 | e2
            · exact e2.symm
            · have q := lessL_tie (h2.1 x e) (h1.1 y e2)
              rw [show x.map clean = x from hc x (by simp), show y.map clean = y from hc y (by simp [e2])] at q
              exact q
        subst exy
        rw [ih h1.2 h2.2 (List.Perm.cons_inv hp) (fun z hz => hc z (by simp [hz]))]
  exact key ha hb hp hc
end Go.Proofs.YtafgfehjdbomfaaDoor
