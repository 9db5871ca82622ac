/-
  Plain laws of predicates: a node more behind a predicate.
-/
import Derived.Test.YtafgfehjdbomfaaDoorPrP
namespace Go.Proofs.YtafgfehjdbomfaaDoor
open Go.RowKit

theorem checkE_inv {ns : List Nod} {s : Sch} (h : checkE ns s = 0) : predB ns = true ∧ mayB s = true ∧ ∀ n ∈ ns, nodE s n = 0 := by
  unfold checkE at h
  split at h
  · rename_i hp
    exact ⟨hp.1, hp.2, (firstE_zero_iff s).1 h⟩
  · cases h
theorem predB_iff {ns : List Nod} : predB ns = true ↔ ns.length ≤ 24 ∧ ∀ i n, ns[i]? = some n → nodB n i = true := by
  unfold predB
  rw [Bool.and_eq_true, decide_eq_true_eq, nodsUpto_iff]
  exact and_congr_right fun _ => ⟨fun h i n hn => h i (List.getElem?_eq_some_iff.1 hn).1 n hn, fun h i _ n hn => h i n hn⟩
theorem predB_snoc {ns : List Nod} {n : Nod} (h : predB ns = true) (hl : ns.length + 1 ≤ 24) (hn : nodB n ns.length = true) : predB (ns ++ [n]) = true := by
  obtain ⟨_, h2⟩ := predB_iff.1 h
  refine predB_iff.2 ⟨by simpa using hl, fun i m hm => ?_⟩
  rw [List.getElem?_append] at hm
  split at hm
  · exact h2 i m hm
  · rename_i hi
    have : i - ns.length = 0 := by
      rcases Nat.eq_zero_or_pos (i - ns.length) with e | e
      · exact e
      · rw [List.getElem?_eq_none (by simp; omega)] at hm; cases hm
    rw [this] at hm
    simp at hm
    subst hm
    obtain rfl : i = ns.length := by omega
    exact hn
theorem checkE_snoc {ns : List Nod} {s : Sch} {n : Nod} (h : checkE ns s = 0) (hk : n.kind ≠ 1 ∧ n.kind ≠ 2) (hl : ns.length + 1 ≤ 24) (hn : nodB n ns.length = true) : checkE (ns ++ [n]) s = 0 := by
  obtain ⟨h1, h2, h3⟩ := checkE_inv h
  rw [checkE, if_pos ⟨predB_snoc h1 hl hn, h2⟩, firstE_zero_iff]
  intro m hm
  rcases List.mem_append.1 hm with hm | hm
  · exact h3 m hm
  · simp at hm; subst hm; rw [nodE, if_pos hk]
theorem truthR_snoc {ns : List Nod} {s : Sch} {vs : List Val} {n : Nod} (h : checkE ns s = 0) (hr : rowB s vs = true) (hk : n.kind ≠ 1 ∧ n.kind ≠ 2) (hl : ns.length + 1 ≤ 24) (hn : nodB n ns.length = true) :
    truthR (ns ++ [n]) s vs = (stepT s vs (evalT s vs ns) n, 0) := by
  rw [truthR, checkE_snoc h hk hl hn, if_neg (by simp), if_pos hr, evalT_snoc]
  simp [lastT]
theorem truthR_ok {ns : List Nod} {s : Sch} {vs : List Val} {t : Int} (h : truthR ns s vs = (t, 0)) : checkE ns s = 0 ∧ rowB s vs = true ∧ t = lastT (evalT s vs ns) := by
  unfold truthR at h
  split at h
  · rename_i hc; injection h with _ h2; exact absurd h2 hc
  split at h
  · rename_i hc hr; injection h with h1 _; exact ⟨by simpa using hc, hr, h1.symm⟩
  · injection h with _ h2; cases h2
theorem truthR_fst {ns : List Nod} {s : Sch} {vs : List Val} {t e : Int} (h : truthR ns s vs = (t, e)) (he : e ≠ 0) : t = 0 := by
  unfold truthR at h
  split at h
  · injection h with h1 _; exact h1.symm
  split at h
  · injection h with _ h2; exact absurd h2.symm he
  · injection h with h1 _; exact h1.symm
theorem evalT_last {s : Sch} {vs : List Val} {ns : List Nod} {k : Nat} (hk : ns.length = k + 1) : (evalT s vs ns).getD k 0 = lastT (evalT s vs ns) := by
  have hl := evalT_len s vs ns
  rw [lastT, List.getLastD_eq_getLast?, List.getLast?_eq_getElem?, hl, hk]
  simp only [Nat.add_sub_cancel]
  rw [List.getD_eq_getElem?_getD, List.getElem?_eq_getElem (by omega)]
  rfl
def notN (l : Int) : Nod := ⟨3, .empty, 0, Val.zero, l, 0⟩
def andN (l r : Int) : Nod := ⟨4, .empty, 0, Val.zero, l, r⟩
def orN (l r : Int) : Nod := ⟨5, .empty, 0, Val.zero, l, r⟩
theorem nodB_not {l n : Nat} (h : l < n) : nodB (notN l) n = true := by simp [nodB, notN, ahead]; omega
theorem nodB_and {l r n : Nat} (h : l < n) (h2 : r < n) : nodB (andN l r) n = true := by simp [nodB, andN, ahead]; omega
theorem nodB_or {l r n : Nat} (h : l < n) (h2 : r < n) : nodB (orN l r) n = true := by simp [nodB, orN, ahead]; omega
theorem getD_left {α : Type} {a b : List α} {k : Nat} {d : α} (h : k < a.length) : (a ++ b).getD k d = a.getD k d := by simp [List.getD_eq_getElem?_getD, List.getElem?_append_left h]
theorem getD_right {α : Type} {a : List α} {x d : α} {k : Nat} (h : a.length = k) : (a ++ [x]).getD k d = x := by subst h; simp
/-- Not twice, and and or with the opposite, and with itself. -/
theorem rules_plain {ns : List Nod} {s : Sch} {vs : List Val} {t : Int} {k : Nat} (h : truthR ns s vs = (t, 0)) (hk : ns.length = k + 1) (hk2 : k + 1 ≤ 18) :
    Tr t ∧ truthR (ns ++ [notN k] ++ [notN (k + 1 : Nat)]) s vs = (t, 0) ∧ truthR (ns ++ [notN k] ++ [andN k (k + 1 : Nat)]) s vs = (joinT 4 t (joinT 3 t t), 0) ∧
      truthR (ns ++ [notN k] ++ [orN k (k + 1 : Nat)]) s vs = (joinT 5 t (joinT 3 t t), 0) ∧ truthR (ns ++ [andN k k]) s vs = (t, 0) := by
  obtain ⟨h1, h2, h3⟩ := truthR_ok h
  have ht : Tr t := by rw [h3]; exact lastT_tr _ _ _
  have hlast := evalT_last (s := s) (vs := vs) hk
  rw [← h3] at hlast
  have hlen := evalT_len s vs ns
  have hn0 : nodB (notN k) ns.length = true := nodB_not (by omega)
  have hc1 := checkE_snoc (n := notN k) h1 (by simp [notN]) (by omega) hn0
  have he1 : evalT s vs (ns ++ [notN k]) = evalT s vs ns ++ [joinT 3 t t] := by
    rw [evalT_snoc]
    have : stepT s vs (evalT s vs ns) (notN k) = joinT 3 t t := by
      unfold stepT notN
      simp [hlast, -List.getD_eq_getElem?_getD]
    rw [this]
  have hg0 : (evalT s vs ns ++ [joinT 3 t t]).getD k 0 = t := by
    rw [getD_left (by omega)]; exact hlast
  have hg1 : (evalT s vs ns ++ [joinT 3 t t]).getD (k + 1) 0 = joinT 3 t t := getD_right (by omega)
  have hl1 : (ns ++ [notN k]).length = k + 2 := by simp [hk]
  have e1 : ((k + 1 : Nat) : Int).toNat = k + 1 := by omega
  refine ⟨ht, ?_, ?_, ?_, ?_⟩
  · rw [truthR_snoc hc1 h2 (by simp [notN]) (by omega) (nodB_not (by omega)), he1]
    unfold stepT notN
    simp only [e1, hg1]
    rcases ht with rfl | rfl | rfl <;> rfl
  · rw [truthR_snoc hc1 h2 (by simp [andN]) (by omega) (nodB_and (by omega) (by omega)), he1]
    unfold stepT andN
    simp only [e1, hg1, Int.toNat_natCast, hg0]
    rfl
  · rw [truthR_snoc hc1 h2 (by simp [orN]) (by omega) (nodB_or (by omega) (by omega)), he1]
    unfold stepT orN
    simp only [e1, hg1, Int.toNat_natCast, hg0]
    rfl
  · rw [truthR_snoc h1 h2 (by simp [andN]) (by omega) (nodB_and (by omega) (by omega))]
    unfold stepT andN
    simp only [Int.toNat_natCast, hlast]
    rcases ht with rfl | rfl | rfl <;> rfl
end Go.Proofs.YtafgfehjdbomfaaDoor
