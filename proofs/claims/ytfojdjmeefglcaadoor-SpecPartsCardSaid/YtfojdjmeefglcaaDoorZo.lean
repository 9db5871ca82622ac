/-
  Zm, Zn, Zp, Zo: texts put together.
-/
import Derived.Test.YtfojdjmeefglcaaDoorZk
import Derived.Test.YtfojdjmeefglcaaDoorZf
import Derived.Test.YtfojdjmeefglcaaDoorCm
import Derived.Test.YtfojdjmeefglcaaDoorZl
namespace Go.Proofs.YtfojdjmeefglcaaDoor
open Go.RowKit

theorem eqV_iff {x y : Val} : eqV x y = true ↔ x = y := by
  obtain ⟨a, b, c, d⟩ := x
  obtain ⟨a', b', c', d'⟩ := y
  simp only [eqV, Bool.and_eq_true, beq_iff_eq, Val.mk.injEq]
  constructor
  · rintro ⟨⟨⟨h1, h2⟩, h3⟩, h4⟩
    refine ⟨h1, h2, h3, ?_⟩
    rw [ByteArray.toList_eq, ByteArray.toList_eq] at h4
    apply ByteArray.ext
    exact Array.toList_inj.1 h4
  · rintro ⟨h1, h2, h3, h4⟩
    exact ⟨⟨⟨h1, h2⟩, h3⟩, by rw [h4]⟩
theorem eqVs_iff : ∀ {a b : List Val}, eqVs a b = true ↔ a = b
  | [], [] => by simp [eqVs]
  | [], y :: ys => by simp [eqVs]
  | x :: xs, [] => by simp [eqVs]
  | x :: xs, y :: ys => by
    have ih := eqVs_iff (a := xs) (b := ys)
    simp only [eqVs, Bool.and_eq_true, beq_iff_eq] at ih ⊢
    simp only [List.length_cons, List.zip_cons_cons, List.all_cons, Bool.and_eq_true, eqV_iff, List.cons.injEq]
    constructor
    · rintro ⟨h1, h2, h3⟩
      exact ⟨h2, ih.1 ⟨by omega, h3⟩⟩
    · rintro ⟨h1, h2⟩
      have := ih.2 h2
      exact ⟨by omega, h1, this.2⟩
theorem idx_some {α : Type} {p : α → Bool} {l : List α} (h : ¬ idx p l < 0) : ∃ (j : Nat) (x : α), idx p l = j ∧ l[j]? = some x ∧ p x = true := by
  obtain ⟨e, hl⟩ := idx_yes (p := p) (l := l) (by omega)
  exact ⟨l.findIdx p, l[l.findIdx p], e, List.getElem?_eq_getElem hl, List.findIdx_getElem (w := hl)⟩
/-- What stands behind n lists: each place names its group, groups are unlike. -/
structure Grp (l : List (List Val)) (n : Nat) (st : List (List Val) × List Int) : Prop where
  nodup : st.1.Nodup
  len : st.2.length = n
  at_ : ∀ i, i < n → ∃ g : Nat, st.2[i]? = some (g : Int) ∧ ∃ x, l[i]? = some x ∧ st.1[g]? = some x
theorem Grp.step {l : List (List Val)} {n : Nat} {st : List (List Val) × List Int} {x : List Val} (h : Grp l n st) (hx : l[n]? = some x) : Grp l (n + 1) (splitStep st x) := by
  unfold splitStep
  split
  · rename_i hn
    have hno := idx_none hn
    refine ⟨?_, by simp [h.len], fun i hi => ?_⟩
    · rw [List.nodup_append]
      refine ⟨h.nodup, by simp, fun a ha b hb e => ?_⟩
      simp at hb
      subst hb
      subst e
      have := hno a ha
      rw [eqVs_iff.2 rfl] at this
      cases this
    · rcases Nat.lt_or_eq_of_le (Nat.le_of_lt_succ hi) with hi | rfl
      · obtain ⟨g, h1, y, h2, h3⟩ := h.at_ i hi
        refine ⟨g, ?_, y, h2, ?_⟩
        · rw [List.getElem?_append_left (List.getElem?_eq_some_iff.1 h1).1]; exact h1
        · rw [List.getElem?_append_left (List.getElem?_eq_some_iff.1 h3).1]; exact h3
      · refine ⟨st.1.length, ?_, x, hx, ?_⟩
        · rw [List.getElem?_append_right (by rw [h.len]; exact Nat.le_refl _), h.len]; simp
        · rw [List.getElem?_append_right (Nat.le_refl _)]; simp
  · rename_i hn
    obtain ⟨j, y, hj, hy, hp⟩ := idx_some hn
    obtain rfl := eqVs_iff.1 hp
    refine ⟨h.nodup, by simp [h.len], fun i hi => ?_⟩
    rcases Nat.lt_or_eq_of_le (Nat.le_of_lt_succ hi) with hi | rfl
    · obtain ⟨g, h1, z, h2, h3⟩ := h.at_ i hi
      exact ⟨g, by rw [List.getElem?_append_left (List.getElem?_eq_some_iff.1 h1).1]; exact h1, z, h2, h3⟩
    · refine ⟨j, ?_, y, hx, hy⟩
      rw [List.getElem?_append_right (by rw [h.len]; exact Nat.le_refl _), h.len]
      simp [hj]
theorem grp_take (l : List (List Val)) : ∀ n, n ≤ l.length → Grp l n (splitTo (l.take n))
  | 0, _ => ⟨by simp [splitTo], by simp [splitTo], fun i hi => by omega⟩
  | n + 1, h => by
    have hx : l[n]? = some l[n] := List.getElem?_eq_getElem (by omega)
    rw [List.take_add_one, hx]
    show Grp l (n + 1) (splitTo (l.take n ++ [l[n]]))
    rw [splitTo_snoc]
    exact (grp_take l n (by omega)).step hx
/-- Two places name one group if and only if their lists are one. -/
theorem grp_same {l : List (List Val)} {i k : Nat} {a b : List Val} {x y : Int} (ha : l[i]? = some a) (hb : l[k]? = some b) (hx : (splitTo l).2[i]? = some x) (hy : (splitTo l).2[k]? = some y) : x = y ↔ a = b := by
  have hg := grp_take l l.length (Nat.le_refl _)
  rw [List.take_length] at hg
  obtain ⟨g, h1, a', h2, h3⟩ := hg.at_ i (List.getElem?_eq_some_iff.1 ha).1
  obtain ⟨g', h1', b', h2', h3'⟩ := hg.at_ k (List.getElem?_eq_some_iff.1 hb).1
  rw [ha] at h2; rw [hb] at h2'
  injection h2 with h2; injection h2' with h2'
  subst h2 h2'
  rw [h1] at hx; rw [h1'] at hy
  injection hx with hx; injection hy with hy
  constructor
  · intro e
    have : g = g' := by omega
    subst this
    rw [h3] at h3'
    injection h3'
  · intro e
    subst e
    obtain ⟨p1, e1⟩ := List.getElem?_eq_some_iff.1 h3
    obtain ⟨p2, e2⟩ := List.getElem?_eq_some_iff.1 h3'
    have hn := List.pairwise_iff_getElem.1 hg.nodup
    rcases Nat.lt_trichotomy g g' with hlt | heq | hgt
    · exact absurd (e1.trans e2.symm) (hn g g' p1 p2 hlt)
    · subst heq; omega
    · exact absurd (e2.trans e1.symm) (hn g' g p2 p1 hgt)
end Go.Proofs.YtfojdjmeefglcaaDoor
namespace Go.Proofs.YtfojdjmeefglcaaDoor
open Go.RowKit

theorem bytesLess_tri : ∀ {a b : List UInt8}, Op.bytesLess a b = false → Op.bytesLess b a = false → a = b
  | [], [], _, _ => rfl
  | [], _ :: _, h, _ => by simp [Op.bytesLess] at h
  | _ :: _, [], _, h => by simp [Op.bytesLess] at h
  | x :: a, y :: b, h, h2 => by
    unfold Op.bytesLess at h h2
    by_cases h1 : x < y
    · simp [h1] at h
    by_cases h3 : y < x
    · simp [h3] at h2
    have e : x = y := by
      apply UInt8.toNat_inj.1
      have q1 : ¬ x.toNat < y.toNat := fun q => h1 (UInt8.lt_iff_toNat_lt.2 q)
      have q2 : ¬ y.toNat < x.toNat := fun q => h3 (UInt8.lt_iff_toNat_lt.2 q)
      omega
    simp [h1, h3] at h h2
    subst e
    rw [bytesLess_tri (a := a) (b := b)] <;> simp_all
theorem strLt_tri {a b : ByteArray} (h : strLt a b = false) (h2 : strLt b a = false) : a = b := by
  have := bytesLess_tri h h2
  have q := eqV_iff (x := ⟨0, 0, false, a⟩) (y := ⟨0, 0, false, b⟩)
  simp [eqV, this] at q
  exact q
theorem clean_cases (v : Val) : (kindV v = 1 ∧ clean v = ⟨1, v.i, false, .empty⟩) ∨ (kindV v = 2 ∧ clean v = ⟨2, 0, v.b, .empty⟩) ∨ (kindV v = 3 ∧ clean v = ⟨3, 0, false, v.s⟩) ∨ (kindV v = 0 ∧ clean v = Val.zero) := by
  unfold kindV clean
  by_cases h1 : v.kind = 1
  · simp [h1]
  by_cases h2 : v.kind = 2
  · simp [h2]
  by_cases h3 : v.kind = 3
  · simp [h3]
  simp [h1, h2, h3]
theorem cmpV_clean_eq (a b : Val) : cmpV a b = 0 ↔ clean a = clean b := by
  constructor
  · intro h
    have hl : lessV a b = false := by
      cases e : lessV a b with
      | false => rfl
      | true => rw [cmpV_lt e] at h; cases h
    have hg : lessV b a = false := by
      cases e : lessV b a with
      | false => rfl
      | true => rw [cmpV_gt e] at h; cases h
    by_cases hk : kindV a = kindV b
    · rcases clean_cases a with ⟨k1, e1⟩ | ⟨k1, e1⟩ | ⟨k1, e1⟩ | ⟨k1, e1⟩ <;> rcases clean_cases b with ⟨k2, e2⟩ | ⟨k2, e2⟩ | ⟨k2, e2⟩ | ⟨k2, e2⟩ <;> first | (exfalso; omega) | skip
      · rw [lessV_one hk k1] at hl; rw [lessV_one hk.symm k2] at hg
        have := of_decide_eq_false hl; have := of_decide_eq_false hg
        rw [e1, e2, show a.i = b.i by omega]
      · rw [lessV_two hk k1] at hl; rw [lessV_two hk.symm k2] at hg
        rw [e1, e2]
        cases ha : a.b <;> cases hb : b.b <;> simp_all
      · rw [lessV_three hk k1] at hl; rw [lessV_three hk.symm k2] at hg
        rw [e1, e2, strLt_tri hl hg]
      · rw [e1, e2]
    · rw [lessV_kind hk] at hl; rw [lessV_kind (Ne.symm hk)] at hg
      have := of_decide_eq_false hl; have := of_decide_eq_false hg
      omega
  · intro e
    have h1 : lessV a b = lessV b a := by rw [← lessV_clean_l a b, e, lessV_clean_l, ← lessV_clean_r b b, ← e, lessV_clean_r]
    cases h : lessV a b with
    | true => have := lessV_asymm h; rw [h1] at h; rw [h] at this; cases this
    | false => exact cmpV_eq h (by rw [← h1]; exact h)
theorem applyR_clean (f : Fld) (v : Val) : clean (applyR f v).1 = (applyR f v).1 := by
  have hz : clean Val.zero = Val.zero := by simp [clean, Val.zero]
  have hc : clean (clean v) = clean v := by
    rcases clean_cases v with ⟨_, e⟩ | ⟨_, e⟩ | ⟨_, e⟩ | ⟨_, e⟩ <;> rw [e] <;> simp [clean, Val.zero]
  unfold applyR
  split
  · exact hz
  split
  · exact hc
  split
  · simp [clean]
  split
  · simp [clean]
  split
  · simp [clean]
  exact hz
def alikeB (a b : List Val) : Bool := a.length == b.length && (a.zip b).all fun p => decide (cmpV p.1 p.2 = 0)
theorem alikeB_iff : ∀ {a b : List Val}, (∀ v ∈ a, clean v = v) → (∀ v ∈ b, clean v = v) → (alikeB a b = true ↔ a = b)
  | [], [], _, _ => by simp [alikeB]
  | [], _ :: _, _, _ => by simp [alikeB]
  | _ :: _, [], _, _ => by simp [alikeB]
  | x :: a, y :: b, ha, hb => by
    have ih := alikeB_iff (a := a) (b := b) (fun v h => ha v (by simp [h])) (fun v h => hb v (by simp [h]))
    have hx := cmpV_clean_eq x y
    rw [ha x (by simp), hb y (by simp)] at hx
    have : alikeB (x :: a) (y :: b) = (decide (cmpV x y = 0) && alikeB a b) := by
      simp [alikeB, Bool.and_left_comm]
    rw [this, Bool.and_eq_true, decide_eq_true_eq, hx, ih, List.cons.injEq]
theorem partT_clean (s : Sch) (fs : List Fld) (vs : List Val) : ∀ v ∈ partT s fs vs, clean v = v := by
  intro v hv
  obtain ⟨f, _, rfl⟩ := List.mem_map.1 hv
  exact applyR_clean _ _
theorem splitFold_pre : ∀ (l : List (List Val)) (st : List (List Val) × List Int), ∃ t, (l.foldl splitStep st).2 = st.2 ++ t
  | [], st => ⟨[], by simp⟩
  | x :: r, st => by
    obtain ⟨t, ht⟩ := splitFold_pre r (splitStep st x)
    rw [List.foldl_cons, ht]
    unfold splitStep
    split
    · exact ⟨_, List.append_assoc _ _ _⟩
    · exact ⟨_, List.append_assoc _ _ _⟩
/-- A new place names a group that is there, or the next one. -/
theorem splitTo_next (l : List (List Val)) (k : Nat) (x : List Val) (hx : l[k]? = some x) : ∃ g : Int, (splitTo l).2[k]? = some g ∧ g ≤ ((splitTo (l.take k)).1.length : Int) ∧ ((splitTo (l.take (k + 1))).1.length : Int) = (if g = ((splitTo (l.take k)).1.length : Int) then ((splitTo (l.take k)).1.length : Int) + 1 else ((splitTo (l.take k)).1.length : Int)) := by
  have ht : l.take (k + 1) = l.take k ++ [x] := by rw [List.take_add_one, hx]; rfl
  have hs : splitTo (l.take (k + 1)) = splitStep (splitTo (l.take k)) x := by rw [ht, splitTo_snoc]
  have hl := (splitTo_len (l.take k)).1
  have hkl := (List.getElem?_eq_some_iff.1 hx).1
  rw [List.length_take, Nat.min_eq_left (by omega)] at hl
  obtain ⟨t, he⟩ := splitFold_pre (l.drop (k + 1)) (splitTo (l.take (k + 1)))
  have hw : (splitTo l).2 = (splitTo (l.take (k + 1))).2 ++ t := by
    rw [← he]
    show (l.foldl splitStep ([], [])).2 = ((l.drop (k + 1)).foldl splitStep ((l.take (k + 1)).foldl splitStep ([], []))).2
    rw [← List.foldl_append, List.take_append_drop]
  rw [hw, hs]
  unfold splitStep
  split
  · rename_i hn
    refine ⟨((splitTo (l.take k)).1.length : Int), ?_, by omega, ?_⟩
    · rw [List.append_assoc, List.getElem?_append_right (by omega), hl]
      simp
    · rw [if_pos rfl]
      simp
  · rename_i hn
    obtain ⟨j, y, e, hy, _⟩ := idx_some hn
    have hj := (List.getElem?_eq_some_iff.1 hy).1
    refine ⟨(j : Int), ?_, ?_, ?_⟩
    · rw [List.append_assoc, List.getElem?_append_right (by omega), hl, e]
      simp
    · omega
    · rw [if_neg (by omega)]
end Go.Proofs.YtfojdjmeefglcaaDoor
namespace Go.Proofs.YtfojdjmeefglcaaDoor
open Go.RowKit

theorem applyR_size (f : Fld) (v : Val) (h : v.s.size ≤ 9223372036854775807) : (applyR f v).1.s.size ≤ 9223372036854775807 := by
  have hz : Val.zero.s.size ≤ 9223372036854775807 := by show ByteArray.empty.size ≤ _; simp
  have he : ByteArray.empty.size ≤ 9223372036854775807 := by simp
  have hc : (clean v).s.size ≤ 9223372036854775807 := by
    rcases clean_cases v with ⟨_, e⟩ | ⟨_, e⟩ | ⟨_, e⟩ | ⟨_, e⟩ <;> rw [e]
    · exact he
    · exact he
    · exact h
    · exact hz
  unfold applyR
  split
  · exact hz
  split
  · exact hc
  split
  · exact he
  split
  · exact he
  split
  · show (firstT (clean v).s f.param).size ≤ _
    unfold firstT
    rw [ByteArray.size_extract]
    omega
  exact hz
theorem partT_size (s : Sch) (fs : List Fld) (vs : List Val) (h : ∀ v ∈ vs, FineV v) : ∀ v ∈ partT s fs vs, v.s.size ≤ 9223372036854775807 := by
  intro v hv
  obtain ⟨f, _, rfl⟩ := List.mem_map.1 hv
  apply applyR_size
  rw [List.getD_eq_getElem?_getD]
  cases e : vs[s.cols.findIdx (colId f.source)]? with
  | none => show ByteArray.empty.size ≤ _; simp
  | some x => exact Nat.le_trans (h x (List.mem_of_getElem? e)).1 (by decide)
theorem zeros_fold : ∀ (l : List (List Val)) (st : List (List Val) × List Int), (∀ x ∈ l, x = []) → (st.1 = [] ∧ st.2 = [] ∨ st.1 = [[]]) → (∀ z ∈ st.2, z = 0) → ∀ z ∈ (l.foldl splitStep st).2, z = 0
  | [], st, _, _, hz => hz
  | x :: r, st, hx, hs, hz => by
    rw [List.foldl_cons]
    obtain rfl : x = [] := hx x (by simp)
    refine zeros_fold r _ (fun y hy => hx y (by simp [hy])) ?_ ?_
    · rcases hs with ⟨h1, h2⟩ | h1
      · right; simp [splitStep, h1, idx]
      · right; simp [splitStep, h1, idx, eqVs]
    · rcases hs with ⟨h1, h2⟩ | h1
      · intro z h; simpa [splitStep, h1, h2, idx] using h
      · intro z h
        simp [splitStep, h1, idx, eqVs] at h
        rcases h with h | h
        · exact hz z h
        · exact h
theorem splitR_none (s : Sch) (vss : List (List Val)) : ∀ z ∈ (splitR 0 [] s vss).1, z = 0 := by
  unfold splitR
  split
  · exact zeros_fold _ _ (fun x h => by obtain ⟨_, _, rfl⟩ := List.mem_map.1 h; rfl) (Or.inl ⟨rfl, rfl⟩) (by simp)
  · simp
end Go.Proofs.YtfojdjmeefglcaaDoor
namespace Go.Proofs.YtfojdjmeefglcaaDoor
open Go.RowKit

set_option maxRecDepth 100000 in
set_option maxHeartbeats 4000000 in
theorem alike_any {w1 w2 : World} (a b : List Val) (A1 A2 : Option Addr) (c1 c2 : Nat) (w : World) (h1 : SlAt w1 w1.heap.size 4 A1 (a.map Val.cells)) (h2 : SlAt w2 w2.heap.size 4 A2 (b.map Val.cells)) [f1 : Fut w1 w] [f2 : Fut w2 w] (hl : a.length ≤ 4611686018427387904)
    (ha : ∀ v ∈ a, v.s.size ≤ 9223372036854775807) (hb : ∀ v ∈ b, v.s.size ≤ 9223372036854775807) :
    Calls Tryd.prog 59 #[.slice A1 a.length c1, .slice A2 b.length c2] w fun e w' => e = .returned (.bool (alikeB a b)) ∧ Step w w' := by
  have z1 := f1.below.size; have z2 := f2.below.size
  obtain ⟨T, hT⟩ : ∃ T, alikeB a b = T := ⟨_, rfl⟩
  have HT := hide hT
  have HA := hide ha; have HB := hide hb
  rw [hT]
  clear hT ha hb
  by_cases hlen : a.length = b.length
  · have HL := hide hlen
    rw [← hlen]
    have HT : Hid (((a.zip b).all fun p => decide (cmpV p.1 p.2 = 0)) = T) := by show _ = _; rw [← HT.out, alikeB, hlen]; simp
    clear hlen
    go_enter Tryd.func59, Tryd.ntmps59
    go_wp2_with fail
    go_loopw [5] (fun i wr => ∃ k : Nat, k ≤ a.length ∧ i = .int .i64 k ∧ Hid ((((a.zip b).drop k).all fun p => decide (cmpV p.1 p.2 = 0)) = T) ∧ Step w wr) (fun i _ => a.length - (intOf i).toNat)
    case atStart => exact ⟨0, Nat.zero_le _, rfl, HT.out, Step.of⟩
    case round =>
      clear HT
      obtain ⟨k, hk, rfl, HT, hst⟩ := hrel
      obtain ⟨wo, rfl⟩ : ∃ x : World, x = wr := ⟨_, rfl⟩
      have hzo := hst.size
      by_cases hlt : k < a.length
      · obtain ⟨b1, o1, hA1, hb1, hc1⟩ := h1.elem (w' := wo) inferInstance (k := k) (by simpa using hlt)
        obtain ⟨b2, o2, hA2, hb2, hc2⟩ := h2.elem (w' := wo) inferInstance (k := k) (by have := HL.out; simp; omega)
        obtain ⟨x, hx⟩ : ∃ x, a[k]? = some x := ⟨_, List.getElem?_eq_getElem hlt⟩
        obtain ⟨y, hy⟩ : ∃ y, b[k]? = some y := ⟨_, List.getElem?_eq_getElem (by have := HL.out; omega)⟩
        obtain ⟨p0, p1, p2, p3⟩ := At.l4 (hc1 k x.cells (by simp [hx]))
        obtain ⟨q0, q1, q2, q3⟩ := At.l4 (hc2 k y.cells (by simp [hy]))
        have l1 : b1 < wo.heap.size := by omega
        have l2 : b2 < wo.heap.size := by omega
        have hkl : (k : Int) < (a.length : Int) := by omega
        have hk0 : (0 : Int) ≤ (k : Int) := by omega
        have HT2 : Hid ((decide (cmpV x y = 0) && ((a.zip b).drop (k + 1)).all fun p => decide (cmpV p.1 p.2 = 0)) = T) := by
          show _ = _
          have hz : (a.zip b)[k]? = some (x, y) := by rw [List.getElem?_zip_eq_some]; exact ⟨hx, hy⟩
          obtain ⟨hkz, hke⟩ := List.getElem?_eq_some_iff.1 hz
          rw [← HT.out, List.drop_eq_getElem_cons hkz, List.all_cons, hke]
        have cm := fun w' => rcmp_any x y w' (HA.out x (List.mem_of_getElem? hx)) (HB.out y (List.mem_of_getElem? hy))
        obtain ⟨R, hR⟩ : ∃ R, cmpV x y = R := ⟨_, rfl⟩
        rw [hR] at cm HT2
        unfold Val.val at cm
        have CM := hide cm
        rw [hA1, hA2]
        clear hc1 hc2 hx hy hA1 hA2 cm hR
        by_cases e0 : R = 0
        · have HT3 : Hid ((((a.zip b).drop (k + 1)).all fun p => decide (cmpV p.1 p.2 = 0)) = T) := by show _ = _; rw [← HT2.out, e0]; simp
          subst e0
          go_upto_region 6 with (fail)
          refine wp_region_held_drew (S := (fun w' => Step wo w' ∧ (∀ b o, b < wo.heap.size → w'.cell? ⟨b, o, none⟩ = wo.cell? ⟨b, o, none⟩))) (by kernel_rfl) (by (try dsimp only); (first | exact ⟨hS1, hS2⟩ | exact ⟨Step.of, (bcell (fut _ _)).1⟩)) (fun hHeld => ?_)
          refine wpAnyH_take (i := 0) (oi := ⟨some 17, _, _, _, _, _⟩) (v := ?_) rfl (by kernel_rfl) (by kernel_rfl) (by kernel_rfl) (fun _ _ _ h => h) (Or.inl ⟨by rfl, ?_⟩) (by assumption) ?_
          rotate_left
          · ((intro w hSw); (try dsimp only at hSw); go_simp; (try with_reducible rfl))
          (try simp only [Act.put, List.setIfInBounds_toArray, List.set_cons_zero, List.set_cons_succ])
          refine wpAnyH_take (i := 1) (oi := ⟨some 18, _, _, _, _, _⟩) (v := ?_) rfl (by kernel_rfl) (by kernel_rfl) (by kernel_rfl) (fun _ _ _ h => h) (Or.inl ⟨by rfl, ?_⟩) (by assumption) ?_
          rotate_left
          · ((intro w hSw); (try dsimp only at hSw); go_simp; (try with_reducible rfl))
          (try simp only [Act.put, List.setIfInBounds_toArray, List.set_cons_zero, List.set_cons_succ])
          refine wpAnyH_take (i := 4) (oi := ⟨some 21, _, _, _, _, _⟩) (v := ?_) rfl (by kernel_rfl) (by kernel_rfl) (by kernel_rfl) (fun _ _ _ h => h) (Or.inl ⟨by rfl, ?_⟩) (by assumption) ?_
          rotate_left
          · ((intro w hSw); (try dsimp only at hSw); go_simp; (try with_reducible rfl))
          (try simp only [Act.put, List.setIfInBounds_toArray, List.set_cons_zero, List.set_cons_succ])
          refine wpAnyH_take (i := 5) (oi := ⟨some 22, _, _, _, _, _⟩) (v := ?_) rfl (by kernel_rfl) (by kernel_rfl) (by kernel_rfl) (fun _ _ _ h => h) (Or.inl ⟨by rfl, ?_⟩) (by assumption) ?_
          rotate_left
          · ((intro w hSw); (try dsimp only at hSw); go_simp; (try with_reducible rfl))
          (try simp only [Act.put, List.setIfInBounds_toArray, List.set_cons_zero, List.set_cons_succ])
          refine wpAnyH_take (i := 2) (oi := ⟨some 19, _, _, _, _, _⟩) (v := ?_) rfl (by kernel_rfl) (by kernel_rfl) (by kernel_rfl) (fun _ _ _ h => h) (Or.inl ⟨by rfl, ?_⟩) (by assumption) ?_
          rotate_left
          · ((intro w hSw); (try dsimp only at hSw); go_simp; (try with_reducible rfl))
          (try simp only [Act.put, List.setIfInBounds_toArray, List.set_cons_zero, List.set_cons_succ])
          refine wpAnyH_take (i := 6) (oi := ⟨some 23, _, _, _, _, _⟩) (v := ?_) rfl (by kernel_rfl) (by kernel_rfl) (by kernel_rfl) (fun _ _ _ h => h) (Or.inl ⟨by rfl, ?_⟩) (by assumption) ?_
          rotate_left
          · ((intro w hSw); (try dsimp only at hSw); go_simp; (try with_reducible rfl))
          (try simp only [Act.put, List.setIfInBounds_toArray, List.set_cons_zero, List.set_cons_succ])
          refine wpAnyH_take (i := 3) (oi := ⟨some 20, _, _, _, _, _⟩) (v := ?_) rfl (by kernel_rfl) (by kernel_rfl) (by kernel_rfl) (fun _ _ _ h => h) (Or.inl ⟨by rfl, ?_⟩) (by assumption) ?_
          rotate_left
          · ((intro w hSw); (try dsimp only at hSw); go_simp; (try with_reducible rfl))
          (try simp only [Act.put, List.setIfInBounds_toArray, List.set_cons_zero, List.set_cons_succ])
          refine wpAnyH_take (i := 7) (oi := ⟨some 24, _, _, _, _, _⟩) (v := ?_) rfl (by kernel_rfl) (by kernel_rfl) (by kernel_rfl) (fun _ _ _ h => h) (Or.inl ⟨by rfl, ?_⟩) (by assumption) ?_
          rotate_left
          · ((intro w hSw); (try dsimp only at hSw); go_simp; (try with_reducible rfl))
          (try simp only [Act.put, List.setIfInBounds_toArray, List.set_cons_zero, List.set_cons_succ])
          refine wpAnyH_ready (rs := [8]) (by kernel_rfl) (by simp) ?_
          refine AllReadyH.cons (o := ⟨some 25, _, _, _, _, _⟩) rfl (fun K hK => ?_) AllReadyH.nil
          obtain ⟨hS1, hS2⟩ := hHeld
          go_simp
          (go_at_call 48; (with_reducible refine (CM.out _).mono ?_); rintro e w5 ⟨rfl, hs5⟩)
          refine hK.out _ _ (by (try dsimp only); (first | exact ⟨hS1, hS2⟩ | exact ⟨Step.of, (bcell (fut _ _)).1⟩)) (fun hHeld => ?_)
          clear hK K
          (try simp only [Act.put, List.setIfInBounds_toArray, List.set_cons_zero, List.set_cons_succ])
          refine wpAnyH_take (i := 9) (oi := ⟨some 26, _, _, _, _, _⟩) (v := ?_) rfl (by kernel_rfl) (by kernel_rfl) (by kernel_rfl) (fun _ _ _ h => h) (Or.inl ⟨by rfl, ?_⟩) (by assumption) ?_
          rotate_left
          · ((intro w hSw); (try dsimp only at hSw); go_simp; (try with_reducible rfl))
          (try simp only [Act.put, List.setIfInBounds_toArray, List.set_cons_zero, List.set_cons_succ])
          refine wpAnyH_done (by kernel_rfl) ?_ _
          go_wp2_with fail
          go_roundw
          case rel => exact ⟨k + 1, by omega, by go_num, HT3.out, Step.of⟩
          case measure => simp [intOf]; omega
        · have HF : Hid (false = T) := by show _ = _; rw [← HT2.out, decide_eq_false e0]; simp
          have g0 : (R = 0) = False := eq_false e0
          have g1 : (R == 0) = false := by simpa using e0
          have g2 : (R != 0) = true := by simpa using e0
          clear e0
          go_upto_region 6 with (fail)
          refine wp_region_held_drew (S := (fun w' => Step wo w' ∧ (∀ b o, b < wo.heap.size → w'.cell? ⟨b, o, none⟩ = wo.cell? ⟨b, o, none⟩))) (by kernel_rfl) (by (try dsimp only); (first | exact ⟨hS1, hS2⟩ | exact ⟨Step.of, (bcell (fut _ _)).1⟩)) (fun hHeld => ?_)
          refine wpAnyH_take (i := 0) (oi := ⟨some 17, _, _, _, _, _⟩) (v := ?_) rfl (by kernel_rfl) (by kernel_rfl) (by kernel_rfl) (fun _ _ _ h => h) (Or.inl ⟨by rfl, ?_⟩) (by assumption) ?_
          rotate_left
          · ((intro w hSw); (try dsimp only at hSw); go_simp; (try with_reducible rfl))
          (try simp only [Act.put, List.setIfInBounds_toArray, List.set_cons_zero, List.set_cons_succ])
          refine wpAnyH_take (i := 1) (oi := ⟨some 18, _, _, _, _, _⟩) (v := ?_) rfl (by kernel_rfl) (by kernel_rfl) (by kernel_rfl) (fun _ _ _ h => h) (Or.inl ⟨by rfl, ?_⟩) (by assumption) ?_
          rotate_left
          · ((intro w hSw); (try dsimp only at hSw); go_simp; (try with_reducible rfl))
          (try simp only [Act.put, List.setIfInBounds_toArray, List.set_cons_zero, List.set_cons_succ])
          refine wpAnyH_take (i := 4) (oi := ⟨some 21, _, _, _, _, _⟩) (v := ?_) rfl (by kernel_rfl) (by kernel_rfl) (by kernel_rfl) (fun _ _ _ h => h) (Or.inl ⟨by rfl, ?_⟩) (by assumption) ?_
          rotate_left
          · ((intro w hSw); (try dsimp only at hSw); go_simp; (try with_reducible rfl))
          (try simp only [Act.put, List.setIfInBounds_toArray, List.set_cons_zero, List.set_cons_succ])
          refine wpAnyH_take (i := 5) (oi := ⟨some 22, _, _, _, _, _⟩) (v := ?_) rfl (by kernel_rfl) (by kernel_rfl) (by kernel_rfl) (fun _ _ _ h => h) (Or.inl ⟨by rfl, ?_⟩) (by assumption) ?_
          rotate_left
          · ((intro w hSw); (try dsimp only at hSw); go_simp; (try with_reducible rfl))
          (try simp only [Act.put, List.setIfInBounds_toArray, List.set_cons_zero, List.set_cons_succ])
          refine wpAnyH_take (i := 2) (oi := ⟨some 19, _, _, _, _, _⟩) (v := ?_) rfl (by kernel_rfl) (by kernel_rfl) (by kernel_rfl) (fun _ _ _ h => h) (Or.inl ⟨by rfl, ?_⟩) (by assumption) ?_
          rotate_left
          · ((intro w hSw); (try dsimp only at hSw); go_simp; (try with_reducible rfl))
          (try simp only [Act.put, List.setIfInBounds_toArray, List.set_cons_zero, List.set_cons_succ])
          refine wpAnyH_take (i := 6) (oi := ⟨some 23, _, _, _, _, _⟩) (v := ?_) rfl (by kernel_rfl) (by kernel_rfl) (by kernel_rfl) (fun _ _ _ h => h) (Or.inl ⟨by rfl, ?_⟩) (by assumption) ?_
          rotate_left
          · ((intro w hSw); (try dsimp only at hSw); go_simp; (try with_reducible rfl))
          (try simp only [Act.put, List.setIfInBounds_toArray, List.set_cons_zero, List.set_cons_succ])
          refine wpAnyH_take (i := 3) (oi := ⟨some 20, _, _, _, _, _⟩) (v := ?_) rfl (by kernel_rfl) (by kernel_rfl) (by kernel_rfl) (fun _ _ _ h => h) (Or.inl ⟨by rfl, ?_⟩) (by assumption) ?_
          rotate_left
          · ((intro w hSw); (try dsimp only at hSw); go_simp; (try with_reducible rfl))
          (try simp only [Act.put, List.setIfInBounds_toArray, List.set_cons_zero, List.set_cons_succ])
          refine wpAnyH_take (i := 7) (oi := ⟨some 24, _, _, _, _, _⟩) (v := ?_) rfl (by kernel_rfl) (by kernel_rfl) (by kernel_rfl) (fun _ _ _ h => h) (Or.inl ⟨by rfl, ?_⟩) (by assumption) ?_
          rotate_left
          · ((intro w hSw); (try dsimp only at hSw); go_simp; (try with_reducible rfl))
          (try simp only [Act.put, List.setIfInBounds_toArray, List.set_cons_zero, List.set_cons_succ])
          refine wpAnyH_ready (rs := [8]) (by kernel_rfl) (by simp) ?_
          refine AllReadyH.cons (o := ⟨some 25, _, _, _, _, _⟩) rfl (fun K hK => ?_) AllReadyH.nil
          obtain ⟨hS1, hS2⟩ := hHeld
          go_simp
          (go_at_call 48; (with_reducible refine (CM.out _).mono ?_); rintro e w5 ⟨rfl, hs5⟩)
          refine hK.out _ _ (by (try dsimp only); (first | exact ⟨hS1, hS2⟩ | exact ⟨Step.of, (bcell (fut _ _)).1⟩)) (fun hHeld => ?_)
          clear hK K
          (try simp only [Act.put, List.setIfInBounds_toArray, List.set_cons_zero, List.set_cons_succ])
          refine wpAnyH_take (i := 9) (oi := ⟨some 26, _, _, _, _, _⟩) (v := ?_) rfl (by kernel_rfl) (by kernel_rfl) (by kernel_rfl) (fun _ _ _ h => h) (Or.inl ⟨by rfl, ?_⟩) (by assumption) ?_
          rotate_left
          · ((intro w hSw); (try dsimp only at hSw); go_simp; (try with_reducible rfl))
          (try simp only [Act.put, List.setIfInBounds_toArray, List.set_cons_zero, List.set_cons_succ])
          refine wpAnyH_done (by kernel_rfl) ?_ _
          go_wp2_with fail
          go_ret
          exact ⟨by rw [← HF.out]; rfl, Step.of⟩
      · obtain rfl : k = a.length := by omega
        have HF : Hid (true = T) := by show _ = _; rw [← HT.out, List.drop_of_length_le (by simp; omega)]; rfl
        go_wp2_with fail
        go_ret
        exact ⟨by rw [← HF.out]; rfl, Step.of⟩
  · have HF : Hid (false = T) := by show _ = _; rw [← HT.out, alikeB, show (a.length == b.length) = false by simpa using hlen]; rfl
    have hlen' : ¬ ((a.length : Int) = (b.length : Int)) := by omega
    have g0 : ((a.length : Int) = (b.length : Int)) = False := eq_false hlen'
    clear hlen'
    go_enter Tryd.func59, Tryd.ntmps59
    go_wp2_with fail
    go_ret
    exact ⟨by rw [← HF.out]; rfl, Step.of⟩
end Go.Proofs.YtfojdjmeefglcaaDoor
