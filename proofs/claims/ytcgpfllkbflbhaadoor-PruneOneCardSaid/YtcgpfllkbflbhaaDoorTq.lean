/-
  Plain: of a file of one row the statistics tell just whether it is taken.
-/
import Derived.Test.YtcgpfllkbflbhaaDoorTi
import Derived.Test.YtcgpfllkbflbhaaDoorSp
import Derived.Test.YtcgpfllkbflbhaaDoorTd
namespace Go.Proofs.YtcgpfllkbflbhaaDoor
open Go.RowKit

def oneS (s : Sch) (vs : List Val) : List Sta := List.zipWith (fun c v => statR c.id [v]) s.cols vs
theorem oneS_len {s : Sch} {vs : List Val} (h : vs.length = s.cols.length) : (oneS s vs).length = s.cols.length := by simp [oneS, h]
theorem oneS_get {s : Sch} {vs : List Val} {i : Nat} {c : Col} {v : Val} (hc : s.cols[i]? = some c) (hv : vs[i]? = some v) : (oneS s vs)[i]? = some (statR c.id [v]) := by
  simp [oneS, List.getElem?_zipWith, hc, hv]
theorem stat_one (id : Int) (v : Val) : statR id [v] = if kindV v = 0 then ⟨id, 1, zeroV, zeroV⟩ else ⟨id, 0, clean v, clean v⟩ := by
  show stepSt ⟨id, 0, zeroV, zeroV⟩ v = _
  have hz : nullB zeroV = true := by decide
  unfold stepSt minS maxS
  split
  · rfl
  · simp only [hz, Bool.true_or, if_true]
theorem stat_col (id : Int) (v : Val) : (statR id [v]).col = id := by rw [stat_one]; split <;> rfl
theorem stat_nulls (id : Int) (v : Val) : (statR id [v]).nulls = if kindV v = 0 then 1 else 0 := by rw [stat_one]; split <;> rfl
theorem fi_ge {α : Type} (p : α → Bool) (l : List α) : ∀ k, k ≤ l.length → (∀ i (h : i < l.length), i < k → p l[i] = false) → k ≤ l.findIdx p
  | 0, _, _ => Nat.zero_le _
  | k + 1, hk, h => fi_miss p l k (by omega) (fi_ge p l k (by omega) fun i hi hik => h i hi (by omega)) (h k (by omega) (by omega))
theorem one_find {s : Sch} {vs : List Val} {j : Nat} {c : Col} (hm : mayB s = true) (hl : vs.length = s.cols.length) (hc : s.cols[j]? = some c) : (oneS s vs).findIdx (statOf c.id) = j ∧ idx (statOf c.id) (oneS s vs) = (j : Int) := by
  have hlen := oneS_len hl
  have hj := (List.getElem?_eq_some_iff.1 hc).1
  have hcj := (List.getElem?_eq_some_iff.1 hc).2
  have hp := List.pairwise_iff_getElem.1 (mayB_iff.1 hm).2.2
  have hat : ∀ i (h : i < (oneS s vs).length) (h2 : i < s.cols.length), ((oneS s vs)[i]).col = (s.cols[i]).id := by
    intro i h h2
    have hv : i < vs.length := by omega
    have e := oneS_get (List.getElem?_eq_getElem h2) (List.getElem?_eq_getElem hv)
    rw [List.getElem?_eq_getElem h] at e
    rw [Option.some.inj e]
    exact stat_col _ _
  have h1 : (oneS s vs).findIdx (statOf c.id) = j := by
    refine fi_hit _ _ j (by omega) (fi_ge _ _ j (by omega) fun i hi hij => ?_) ?_
    · have hne := (clash_iff.1 (hp i j (by omega) hj hij)).1
      have := hat i hi (by omega)
      simp only [statOf, this, beq_eq_false_iff_ne, ne_eq]
      rw [hcj] at hne
      exact hne
    · simp only [statOf, hat j (by omega) hj, hcj, beq_self_eq_true]
  refine ⟨h1, ?_⟩
  rw [idx, h1, if_pos (by omega)]
theorem some_same {c : Int} (a v : Val) (h0 : 0 ≤ c) (h5 : c ≤ 5) : someB c a a v = standB c a v := by
  have : c = 0 ∨ c = 1 ∨ c = 2 ∨ c = 3 ∨ c = 4 ∨ c = 5 := by omega
  rcases this with rfl | rfl | rfl | rfl | rfl | rfl
  all_goals
    simp [someB, standB]
  rw [Bool.and_comm]
theorem one_told {n : Nod} (id : Int) (v : Val) (h12 : n.kind = 1 ∨ n.kind = 2) (hc : n.kind = 2 ∨ (0 ≤ n.cmp ∧ n.cmp ≤ 5)) : (toldS n (statR id [v]) 1).testBit 1 = (leafT n v == 1) := by
  rw [stat_one]
  by_cases h2 : n.kind = 2
  · have hL : leafT n v = truthI (kindV v == 0) := by unfold leafT; rw [if_neg (by omega), if_pos h2]
    rw [hL]
    by_cases hk : kindV v = 0
    · rw [if_pos hk, hk]; unfold toldS; rw [if_pos h2]; show (orS (bitS (decide ((0 : Int) < 1)) 2) (bitS (decide ((1 : Int) < 1)) 1)).testBit 1 = (truthI ((0 : Int) == 0) == 1); decide
    · rw [if_neg hk]
      have : (kindV v == 0) = false := by simpa using hk
      rw [this]; unfold toldS; rw [if_pos h2]; show (orS (bitS (decide ((0 : Int) < 0)) 2) (bitS (decide ((0 : Int) < 1)) 1)).testBit 1 = (truthI false == 1); decide
  · have h1 : n.kind = 1 := by omega
    have hc' : 0 ≤ n.cmp ∧ n.cmp ≤ 5 := by rcases hc with h | h; exact absurd h h2; exact h
    by_cases hk : kindV v = 0
    · have hL : leafT n v = 2 := by unfold leafT; rw [if_neg (by omega), if_neg h2, if_pos hk]
      rw [hL, if_pos hk]; unfold toldS; rw [if_neg h2, if_neg (show ¬ (1 : Int) < 1 by decide)]; show (bitS (decide ((0 : Int) < 1)) 4).testBit 1 = ((2 : Int) == 1); decide
    · have hL : leafT n v = truthI (standB n.cmp v n.v) := by unfold leafT; rw [if_neg (by omega), if_neg h2, if_neg hk]
      rw [hL, if_neg hk]
      have e : toldS n ⟨id, 0, clean v, clean v⟩ 1 = orS (orS (bitS (decide ((0 : Int) < 0)) 4) (bitS (someB n.cmp (clean (clean v)) (clean (clean v)) n.v) 2)) (bitS (someB (oppC n.cmp) (clean (clean v)) (clean (clean v)) n.v) 1) := by
        unfold toldS; rw [if_neg h2, if_pos (show (0 : Int) < 1 by decide)]
      rw [e, some_same _ _ hc'.1 hc'.2, standB_clean, standB_clean]
      generalize standB n.cmp v n.v = y
      generalize someB (oppC n.cmp) (clean (clean v)) (clean (clean v)) n.v = z
      cases y <;> cases z <;> decide

theorem truth_yes {ns : List Nod} {s : Sch} {vs : List Val} (h : (truthR ns s vs).2 = 0) : checkE ns s = 0 ∧ rowB s vs = true ∧ truthR ns s vs = (lastT (evalT s vs ns), 0) := by
  unfold truthR at h ⊢
  by_cases hc : checkE ns s = 0
  · rw [if_neg (by simpa using hc)] at h ⊢
    by_cases hr : rowB s vs = true
    · rw [if_pos hr]; exact ⟨hc, hr, rfl⟩
    · rw [if_neg hr] at h; simp at h
  · rw [if_pos hc] at h; exact absurd h hc
theorem one_stats {x : Nod} {s : Sch} {vs : List Val} (h : (truthR [x] s vs).2 = 0) (h12 : x.kind = 1 ∨ x.kind = 2) :
    statsR [x] s (oneS s vs) 1 = ((truthR [x] s vs).1 == 1, 0) ∧ (statsR [x] s (oneS s vs) 0).1 = false := by
  obtain ⟨hc, hr, ht⟩ := truth_yes h
  obtain ⟨_, hm, _⟩ := checkE_inv hc
  have hl : vs.length = s.cols.length := by
    by_cases h : vs.length = s.cols.length
    · exact h
    · rw [rowB_len h] at hr; cases hr
  obtain ⟨j, hi, hj, hf⟩ := node_col hc (k := 0) (n := x) rfl h12
  obtain ⟨c, hcj⟩ : ∃ c, s.cols[j]? = some c := ⟨_, List.getElem?_eq_getElem hj⟩
  obtain ⟨v, hvj⟩ : ∃ v, vs[j]? = some v := ⟨_, List.getElem?_eq_getElem (by omega)⟩
  have hnd : nodId s x = c.id := by rw [nodId, hf, List.getD_eq_getElem?_getD, hcj]; rfl
  obtain ⟨hfi, hix⟩ := one_find hm hl hcj
  have hlf : leafStat s (oneS s vs) 1 x = toldS x (statR c.id [v]) 1 := by
    rw [leafStat, hnd, if_pos (by omega), hfi, List.getD_eq_getElem?_getD, oneS_get hcj hvj]
    rfl
  have hev : evalT s vs [x] = [leafT x v] := by
    have e : evalT s vs [x] = [stepT s vs [] x] := rfl
    rw [e, step_leaf h12 hf hvj]
  constructor
  · have hany : (oneS s vs).any (outOf 1) = false := by
      rw [List.any_eq_false]
      intro t htm
      obtain ⟨i, hi2, rfl⟩ := List.mem_iff_getElem.1 htm
      have hlen := oneS_len hl
      have e := oneS_get (List.getElem?_eq_getElem (show i < s.cols.length by omega)) (List.getElem?_eq_getElem (show i < vs.length by omega))
      rw [List.getElem?_eq_getElem hi2] at e
      rw [Option.some.inj e]
      unfold outOf
      rw [stat_nulls]
      split <;> decide
    rw [statsR, if_neg (by simpa using hc), if_neg (by rw [hany]; decide), if_neg (by decide), ht, hev]
    have hw : walkB (leafStat s (oneS s vs) 1) [x] = (leafT x v == 1) := by
      have e : evalW (leafStat s (oneS s vs) 1) [x] = [stepW (leafStat s (oneS s vs) 1) [] x] := rfl
      rw [walkB, e, stepW_leaf h12, hlf]
      exact one_told c.id v h12 (node_cmp hc (by simp) h12)
    rw [hw]
    rfl
  · unfold statsR
    rw [if_neg (by simpa using hc)]
    split
    · rfl
    · rfl
end Go.Proofs.YtcgpfllkbflbhaaDoor
