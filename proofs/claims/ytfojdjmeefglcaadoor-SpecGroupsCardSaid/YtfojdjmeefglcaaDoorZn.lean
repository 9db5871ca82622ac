/-
  Plain: values are alike when they are one; a list's running count of groups.
-/
import Derived.Test.YtfojdjmeefglcaaDoorZm
import Derived.Test.YtfojdjmeefglcaaDoorZf
import Derived.Test.YtfojdjmeefglcaaDoorCm
namespace Go.Proofs.YtfojdjmeefglcaaDoor
open Go.RowKit

theorem bytesLess_tri : ∀ {a b : List UInt8}, Op.bytesLess a b = false → Op.bytesLess b a = false → a = b
  | [], [], _, _ => rfl
  | [], _ :: _, h, _ => by simp [Op.bytesLess] at h
  | _ :: _, [], _, h => by simp [Op.bytesLess] at h
  | x :: a, y :: b, h, h2 => by
    unfold Op.bytesLess at h h2
    by_cases h1 : x < y
    · simp [h1] at h
    by_cases h3 : y < x
    · simp [h3] at h2
    have e : x = y := by
      apply UInt8.toNat_inj.1
      have q1 : ¬ x.toNat < y.toNat := fun q => h1 (UInt8.lt_iff_toNat_lt.2 q)
      have q2 : ¬ y.toNat < x.toNat := fun q => h3 (UInt8.lt_iff_toNat_lt.2 q)
      omega
    simp [h1, h3] at h h2
    subst e
    rw [bytesLess_tri (a := a) (b := b)] <;> simp_all
theorem strLt_tri {a b : ByteArray} (h : strLt a b = false) (h2 : strLt b a = false) : a = b := by
  have := bytesLess_tri h h2
  have q := eqV_iff (x := ⟨0, 0, false, a⟩) (y := ⟨0, 0, false, b⟩)
  simp [eqV, this] at q
  exact q
theorem clean_cases (v : Val) : (kindV v = 1 ∧ clean v = ⟨1, v.i, false, .empty⟩) ∨ (kindV v = 2 ∧ clean v = ⟨2, 0, v.b, .empty⟩) ∨ (kindV v = 3 ∧ clean v = ⟨3, 0, false, v.s⟩) ∨ (kindV v = 0 ∧ clean v = Val.zero) := by
  unfold kindV clean
  by_cases h1 : v.kind = 1
  · simp [h1]
  by_cases h2 : v.kind = 2
  · simp [h2]
  by_cases h3 : v.kind = 3
  · simp [h3]
  simp [h1, h2, h3]
theorem cmpV_clean_eq (a b : Val) : cmpV a b = 0 ↔ clean a = clean b := by
  constructor
  · intro h
    have hl : lessV a b = false := by
      cases e : lessV a b with
      | false => rfl
      | true => rw [cmpV_lt e] at h; cases h
    have hg : lessV b a = false := by
      cases e : lessV b a with
      | false => rfl
      | true => rw [cmpV_gt e] at h; cases h
    by_cases hk : kindV a = kindV b
    · rcases clean_cases a with ⟨k1, e1⟩ | ⟨k1, e1⟩ | ⟨k1, e1⟩ | ⟨k1, e1⟩ <;> rcases clean_cases b with ⟨k2, e2⟩ | ⟨k2, e2⟩ | ⟨k2, e2⟩ | ⟨k2, e2⟩ <;> first | (exfalso; omega) | skip
      · rw [lessV_one hk k1] at hl; rw [lessV_one hk.symm k2] at hg
        have := of_decide_eq_false hl; have := of_decide_eq_false hg
        rw [e1, e2, show a.i = b.i by omega]
      · rw [lessV_two hk k1] at hl; rw [lessV_two hk.symm k2] at hg
        rw [e1, e2]
        cases ha : a.b <;> cases hb : b.b <;> simp_all
      · rw [lessV_three hk k1] at hl; rw [lessV_three hk.symm k2] at hg
        rw [e1, e2, strLt_tri hl hg]
      · rw [e1, e2]
    · rw [lessV_kind hk] at hl; rw [lessV_kind (Ne.symm hk)] at hg
      have := of_decide_eq_false hl; have := of_decide_eq_false hg
      omega
  · intro e
    have h1 : lessV a b = lessV b a := by rw [← lessV_clean_l a b, e, lessV_clean_l, ← lessV_clean_r b b, ← e, lessV_clean_r]
    cases h : lessV a b with
    | true => have := lessV_asymm h; rw [h1] at h; rw [h] at this; cases this
    | false => exact cmpV_eq h (by rw [← h1]; exact h)
theorem applyR_clean (f : Fld) (v : Val) : clean (applyR f v).1 = (applyR f v).1 := by
  have hz : clean Val.zero = Val.zero := by simp [clean, Val.zero]
  have hc : clean (clean v) = clean v := by
    rcases clean_cases v with ⟨_, e⟩ | ⟨_, e⟩ | ⟨_, e⟩ | ⟨_, e⟩ <;> rw [e] <;> simp [clean, Val.zero]
  unfold applyR
  split
  · exact hz
  split
  · exact hc
  split
  · simp [clean]
  split
  · simp [clean]
  split
  · simp [clean]
  exact hz
def alikeB (a b : List Val) : Bool := a.length == b.length && (a.zip b).all fun p => decide (cmpV p.1 p.2 = 0)
theorem alikeB_iff : ∀ {a b : List Val}, (∀ v ∈ a, clean v = v) → (∀ v ∈ b, clean v = v) → (alikeB a b = true ↔ a = b)
  | [], [], _, _ => by simp [alikeB]
  | [], _ :: _, _, _ => by simp [alikeB]
  | _ :: _, [], _, _ => by simp [alikeB]
  | x :: a, y :: b, ha, hb => by
    have ih := alikeB_iff (a := a) (b := b) (fun v h => ha v (by simp [h])) (fun v h => hb v (by simp [h]))
    have hx := cmpV_clean_eq x y
    rw [ha x (by simp), hb y (by simp)] at hx
    have : alikeB (x :: a) (y :: b) = (decide (cmpV x y = 0) && alikeB a b) := by
      simp [alikeB, Bool.and_left_comm]
    rw [this, Bool.and_eq_true, decide_eq_true_eq, hx, ih, List.cons.injEq]
theorem partT_clean (s : Sch) (fs : List Fld) (vs : List Val) : ∀ v ∈ partT s fs vs, clean v = v := by
  intro v hv
  obtain ⟨f, _, rfl⟩ := List.mem_map.1 hv
  exact applyR_clean _ _
theorem splitFold_pre : ∀ (l : List (List Val)) (st : List (List Val) × List Int), ∃ t, (l.foldl splitStep st).2 = st.2 ++ t
  | [], st => ⟨[], by simp⟩
  | x :: r, st => by
    obtain ⟨t, ht⟩ := splitFold_pre r (splitStep st x)
    rw [List.foldl_cons, ht]
    unfold splitStep
    split
    · exact ⟨_, List.append_assoc _ _ _⟩
    · exact ⟨_, List.append_assoc _ _ _⟩
/-- A new place names a group that is there, or the next one. -/
theorem splitTo_next (l : List (List Val)) (k : Nat) (x : List Val) (hx : l[k]? = some x) : ∃ g : Int, (splitTo l).2[k]? = some g ∧ g ≤ ((splitTo (l.take k)).1.length : Int) ∧ ((splitTo (l.take (k + 1))).1.length : Int) = (if g = ((splitTo (l.take k)).1.length : Int) then ((splitTo (l.take k)).1.length : Int) + 1 else ((splitTo (l.take k)).1.length : Int)) := by
  have ht : l.take (k + 1) = l.take k ++ [x] := by rw [List.take_add_one, hx]; rfl
  have hs : splitTo (l.take (k + 1)) = splitStep (splitTo (l.take k)) x := by rw [ht, splitTo_snoc]
  have hl := (splitTo_len (l.take k)).1
  have hkl := (List.getElem?_eq_some_iff.1 hx).1
  rw [List.length_take, Nat.min_eq_left (by omega)] at hl
  obtain ⟨t, he⟩ := splitFold_pre (l.drop (k + 1)) (splitTo (l.take (k + 1)))
  have hw : (splitTo l).2 = (splitTo (l.take (k + 1))).2 ++ t := by
    rw [← he]
    show (l.foldl splitStep ([], [])).2 = ((l.drop (k + 1)).foldl splitStep ((l.take (k + 1)).foldl splitStep ([], []))).2
    rw [← List.foldl_append, List.take_append_drop]
  rw [hw, hs]
  unfold splitStep
  split
  · rename_i hn
    refine ⟨((splitTo (l.take k)).1.length : Int), ?_, by omega, ?_⟩
    · rw [List.append_assoc, List.getElem?_append_right (by omega), hl]
      simp
    · rw [if_pos rfl]
      simp
  · rename_i hn
    obtain ⟨j, y, e, hy, _⟩ := idx_some hn
    have hj := (List.getElem?_eq_some_iff.1 hy).1
    refine ⟨(j : Int), ?_, ?_, ?_⟩
    · rw [List.append_assoc, List.getElem?_append_right (by omega), hl, e]
      simp
    · omega
    · rw [if_neg (by omega)]
end Go.Proofs.YtfojdjmeefglcaaDoor
