/-
  Plain: which rows two predicates take together.
-/
import Derived.Test.YtafgfehjdbomfaaDoorGa
import Derived.Test.YtafgfehjdbomfaaDoorPrL
namespace Go.Proofs.YtafgfehjdbomfaaDoor
open Go.RowKit

/-- A node of a predicate that stands behind k others. -/
def shN (k : Nat) (n : Nod) : Nod := { n with l := IntKind.i64.wrap (n.l + k), r := IntKind.i64.wrap (n.r + k) }
theorem wrap_small {x : Int} (h : 0 ≤ x) (h2 : x ≤ 1000) : IntKind.i64.wrap x = x := by rw [IntKind.wrap_i64]; omega
theorem stepT_sh (s : Sch) (vs : List Val) (pre acc : List Int) (n : Nod) (h : nodB n acc.length = true) (hl : pre.length + acc.length ≤ 100) : stepT s vs (pre ++ acc) (shN pre.length n) = stepT s vs acc n := by
  have key : ∀ x : Int, ahead x acc.length = true → (pre ++ acc).getD (IntKind.i64.wrap (x + pre.length)).toNat 0 = acc.getD x.toNat 0 := by
    intro x hx
    simp only [ahead, Bool.and_eq_true, decide_eq_true_eq] at hx
    rw [wrap_small (by omega) (by omega), show (x + (pre.length : Int)).toNat = pre.length + x.toNat by omega, List.getD_eq_getElem?_getD, List.getElem?_append_right (by omega), List.getD_eq_getElem?_getD]
    simp
  unfold stepT shN
  simp only []
  split
  · rfl
  · rename_i h0
    split
    · rfl
    · rename_i h1
      unfold nodB at h
      rw [if_neg (by omega), if_neg (by omega)] at h
      split
      · rename_i h3
        rw [if_pos h3] at h
        rw [key _ h]
      · rename_i h3
        rw [if_neg h3] at h
        split at h
        · simp only [Bool.and_eq_true] at h
          rw [key _ h.1, key _ h.2]
        · cases h
theorem evalT_sh (s : Sch) (vs : List Val) (p q : List Nod) (hq : ∀ i n, q[i]? = some n → nodB n i = true) (hl : p.length + q.length ≤ 100) : ∀ k, k ≤ q.length → evalT s vs (p ++ (q.take k).map (shN p.length)) = evalT s vs p ++ evalT s vs (q.take k)
  | 0, _ => by simp [evalT]
  | k + 1, hk => by
    have hx : q[k]? = some q[k] := List.getElem?_eq_getElem (by omega)
    have e1 : q.take (k + 1) = q.take k ++ [q[k]] := by rw [List.take_add_one, hx]; rfl
    have ih := evalT_sh s vs p q hq hl k (by omega)
    have e2 : (evalT s vs (q.take k)).length = k := by rw [evalT_len, List.length_take]; omega
    have e3 := evalT_len s vs p
    rw [e1, List.map_append, ← List.append_assoc, List.map_cons, List.map_nil, evalT_snoc, ih, evalT_snoc, List.append_assoc]
    have := stepT_sh s vs (evalT s vs p) (evalT s vs (q.take k)) q[k] (by rw [e2]; exact hq k _ hx) (by omega)
    rw [e3] at this
    rw [this]
/-- Both predicates, one behind the other, and a node that asks for both. -/
def bothN (p q : List Nod) : List Nod := p ++ q.map (shN p.length) ++ [andN ((p.length : Int) - 1) ((p.length : Int) + q.length - 1)]
theorem nodB_sh {n : Nod} {k i : Nat} (h : nodB n i = true) (hl : k + i ≤ 100) : nodB (shN k n) (k + i) = true := by
  have key : ∀ x : Int, ahead x i = true → ahead (IntKind.i64.wrap (x + k)) (k + i) = true := by
    intro x hx
    simp only [ahead, Bool.and_eq_true, decide_eq_true_eq] at hx ⊢
    rw [wrap_small (by omega) (by omega)]
    omega
  unfold nodB shN at *
  simp only [] at *
  split
  · rfl
  · rename_i h0
    rw [if_neg h0] at h
    split
    · rename_i h1; rw [if_pos h1] at h; exact h
    · rename_i h1
      rw [if_neg h1] at h
      split
      · rename_i h3; rw [if_pos h3] at h; exact key _ h
      · rename_i h3
        rw [if_neg h3] at h
        split
        · rename_i h4
          rw [if_pos h4] at h
          simp only [Bool.and_eq_true] at h ⊢
          exact ⟨key _ h.1, key _ h.2⟩
        · rename_i h4
          rw [if_neg h4] at h
          cases h
theorem both_len (p q : List Nod) : (bothN p q).length = p.length + q.length + 1 := by simp [bothN]; omega
theorem checkE_app {p q : List Nod} {s : Sch} (hp : checkE p s = 0) (hq : checkE q s = 0) (hl : p.length + q.length ≤ 23) : checkE (p ++ q.map (shN p.length)) s = 0 := by
  obtain ⟨h1, h2, h3⟩ := checkE_inv hp
  obtain ⟨k1, k2, k3⟩ := checkE_inv hq
  have b1 := (predB_iff.1 h1).2
  have b2 := (predB_iff.1 k1).2
  have hb : predB (p ++ q.map (shN p.length)) = true := by
    refine predB_iff.2 ⟨by simp; omega, fun i m hm => ?_⟩
    rw [List.getElem?_append] at hm
    split at hm
    · exact b1 i m hm
    · rename_i hi
      rw [List.getElem?_map] at hm
      cases hn : q[i - p.length]? with
      | none => rw [hn] at hm; cases hm
      | some n =>
        rw [hn] at hm
        obtain rfl := Option.some.inj hm
        have hlt := (List.getElem?_eq_some_iff.1 hn).1
        have := nodB_sh (k := p.length) (b2 _ _ hn) (by omega)
        rwa [show p.length + (i - p.length) = i by omega] at this
  rw [checkE, if_pos ⟨hb, h2⟩, firstE_zero_iff]
  intro m hm
  rcases List.mem_append.1 hm with hm | hm
  · exact h3 m hm
  · obtain ⟨n, hn, rfl⟩ := List.mem_map.1 hm
    exact k3 n hn
theorem both_truth {p q : List Nod} {s : Sch} {vs : List Val} {k m : Nat} (hp : checkE p s = 0) (hq : checkE q s = 0) (hk : p.length = k + 1) (hm : q.length = m + 1) (hl : k + 1 + (m + 1) < 24) :
    checkE (bothN p q) s = 0 ∧ (rowB s vs = true → truthR (bothN p q) s vs = (joinT 4 (lastT (evalT s vs p)) (lastT (evalT s vs q)), 0)) := by
  have hc := checkE_app hp hq (by omega)
  have hlen : (p ++ q.map (shN p.length)).length = k + m + 2 := by simp; omega
  have e : bothN p q = p ++ q.map (shN p.length) ++ [andN (k : Int) ((k + m + 1 : Nat) : Int)] := by
    unfold bothN
    rw [show (p.length : Int) - 1 = (k : Int) by omega, show (p.length : Int) + q.length - 1 = ((k + m + 1 : Nat) : Int) by omega]
  have hn : nodB (andN (k : Int) ((k + m + 1 : Nat) : Int)) (p ++ q.map (shN p.length)).length = true := nodB_and (by omega) (by omega)
  refine ⟨by rw [e]; exact checkE_snoc hc (by simp [andN]) (by omega) hn, fun hr => ?_⟩
  rw [e, truthR_snoc hc hr (by simp [andN]) (by omega) hn]
  have ev := evalT_sh s vs p q (fun i n h => ((predB_iff.1 (checkE_inv hq).1).2 i n h)) (by omega) q.length (Nat.le_refl _)
  rw [List.take_length] at ev
  have lp := evalT_last (s := s) (vs := vs) hk
  have lq := evalT_last (s := s) (vs := vs) hm
  have l1 := evalT_len s vs p
  have l2 := evalT_len s vs q
  rw [ev]
  have g1 : (evalT s vs p ++ evalT s vs q).getD k 0 = lastT (evalT s vs p) := by rw [getD_left (by omega)]; exact lp
  have g2 : (evalT s vs p ++ evalT s vs q).getD (k + m + 1) 0 = lastT (evalT s vs q) := by
    rw [← lq, List.getD_eq_getElem?_getD, List.getElem?_append_right (by omega), List.getD_eq_getElem?_getD, show k + m + 1 - (evalT s vs p).length = m by omega]
  unfold stepT andN
  simp only [Int.toNat_natCast, g1, g2]
  rfl
theorem join_yes {a b : Int} (ha : Tr a) (hb : Tr b) : joinT 4 a b = 1 ↔ a = 1 ∧ b = 1 := by
  rcases ha with rfl | rfl | rfl <;> rcases hb with rfl | rfl | rfl <;> decide
/-- What stands in both lists, i of the first looked at. -/
def wantTo (a b : List Int) : Nat → List Int
  | 0 => []
  | i + 1 => wantTo a b i ++ b.filter (· == a.getD i 0)
theorem yes_mem {ns : List Nod} {s : Sch} {vss : List (List Val)} {x : Int} : ∀ {k : Nat}, x ∈ yesTo ns s vss k ↔ ∃ i : Nat, i < k ∧ x = (i : Int) ∧ (truthR ns s (vss.getD i [])).1 = 1
  | 0 => by simp [yesTo]
  | k + 1 => by
    rw [yesTo]
    split
    · rename_i h
      rw [List.mem_append, yes_mem]
      constructor
      · rintro (⟨i, h1, h2, h3⟩ | h1)
        · exact ⟨i, by omega, h2, h3⟩
        · simp at h1; exact ⟨k, by omega, h1, h⟩
      · rintro ⟨i, h1, h2, h3⟩
        by_cases e : i = k
        · subst e; exact .inr (by simp [h2])
        · exact .inl ⟨i, by omega, h2, h3⟩
    · rename_i h
      rw [yes_mem]
      constructor
      · rintro ⟨i, h1, h2, h3⟩; exact ⟨i, by omega, h2, h3⟩
      · rintro ⟨i, h1, h2, h3⟩
        by_cases e : i = k
        · subst e; exact absurd h3 h
        · exact ⟨i, by omega, h2, h3⟩
theorem yes_nodup (ns : List Nod) (s : Sch) (vss : List (List Val)) : ∀ k, (yesTo ns s vss k).Pairwise (fun x y : Int => x ≠ y)
  | 0 => List.Pairwise.nil
  | k + 1 => by
    have ih := yes_nodup ns s vss k
    rw [yesTo]
    split
    · rw [List.pairwise_append]
      refine ⟨ih, List.pairwise_singleton _ _, fun x hx y hy => ?_⟩
      obtain ⟨i, h1, rfl, _⟩ := yes_mem.1 hx
      simp at hy
      subst hy
      omega
    · exact ih
theorem filter_one : ∀ {b : List Int}, b.Pairwise (fun x y : Int => x ≠ y) → ∀ x : Int, b.filter (· == x) = if x ∈ b then [x] else []
  | [], _, x => by simp
  | y :: b, h, x => by
    have h2 := List.pairwise_cons.1 h
    have ih := filter_one h2.2 x
    rw [List.filter_cons]
    by_cases e : y = x
    · subst e
      have hn : ¬ y ∈ b := fun hm => h2.1 y hm rfl
      rw [if_pos (by simp), ih, if_neg hn, if_pos (by simp)]
    · rw [if_neg (by simpa using e), ih]
      have : (x ∈ y :: b) ↔ x ∈ b := by simp; exact fun h => absurd h.symm e
      simp only [this]
theorem want_eq {a b : List Int} (hb : b.Pairwise (fun x y : Int => x ≠ y)) : ∀ i, i ≤ a.length → wantTo a b i = (a.take i).filter (fun x => decide (x ∈ b))
  | 0, _ => by simp [wantTo]
  | i + 1, hi => by
    have hx : a[i]? = some a[i] := List.getElem?_eq_getElem (by omega)
    rw [wantTo, want_eq hb i (by omega), List.take_add_one, hx, List.filter_append, filter_one hb, List.getD_eq_getElem?_getD, hx]
    simp only [Option.getD_some, Option.toList_some, List.filter_cons, List.filter_nil, decide_eq_true_eq]
theorem want_len {a b : List Int} (hb : b.Pairwise (fun x y : Int => x ≠ y)) {i : Nat} (hi : i ≤ a.length) (j : Nat) : (wantTo a b i).length + ((b.take j).filter (· == a.getD i 0)).length ≤ i + 1 := by
  have h1 : (wantTo a b i).length ≤ i := by
    rw [want_eq hb i hi]
    exact Nat.le_trans (List.length_filter_le _ _) (by rw [List.length_take]; omega)
  have h2 : ((b.take j).filter (· == a.getD i 0)).length ≤ 1 := by
    rw [filter_one (hb.sublist (List.take_sublist j b))]
    split <;> simp
  omega
/-- The rows that both take. -/
theorem both_rows {p q : List Nod} {s : Sch} {vss : List (List Val)} {k m : Nat} (hp : checkE p s = 0) (hq : checkE q s = 0) (hk : p.length = k + 1) (hm : q.length = m + 1) (hl : k + 1 + (m + 1) < 24) (hr : rowsOk s vss vss.length = true) :
    selR (bothN p q) s vss = (wantTo (yesTo p s vss vss.length) (yesTo q s vss vss.length) (yesTo p s vss vss.length).length, 0) := by
  have hc := (both_truth (vs := []) hp hq hk hm hl).1
  rw [selR, if_neg (by rw [hc]; simp), if_pos hr, want_eq (yes_nodup _ _ _ _) _ (Nat.le_refl _), List.take_length]
  have key : ∀ j, j ≤ vss.length → yesTo (bothN p q) s vss j = (yesTo p s vss j).filter (fun x => decide (x ∈ yesTo q s vss vss.length)) := by
    intro j
    induction j with
    | zero => intro _; simp [yesTo]
    | succ j ih =>
      intro hj
      have hx : vss[j]? = some vss[j] := List.getElem?_eq_getElem (by omega)
      have hg : vss.getD j [] = vss[j] := by rw [List.getD_eq_getElem?_getD, hx]; rfl
      have hrow : rowB s vss[j] = true := by
        unfold rowsOk at hr
        rw [List.take_length] at hr
        exact List.all_eq_true.1 hr _ (List.getElem_mem _)
      have t0 := (both_truth (vs := vss[j]) hp hq hk hm hl).2 hrow
      have t1 : truthR p s vss[j] = (lastT (evalT s vss[j] p), 0) := by rw [truthR, if_neg (by rw [hp]; simp), if_pos hrow]
      have t2 : truthR q s vss[j] = (lastT (evalT s vss[j] q), 0) := by rw [truthR, if_neg (by rw [hq]; simp), if_pos hrow]
      have hj2 := join_yes (lastT_tr s vss[j] p) (lastT_tr s vss[j] q)
      have hmem : ((j : Int) ∈ yesTo q s vss vss.length) ↔ lastT (evalT s vss[j] q) = 1 := by
        rw [yes_mem]
        constructor
        · rintro ⟨i, _, h2, h3⟩
          obtain rfl : j = i := by omega
          rw [hg, t2] at h3
          exact h3
        · intro h; exact ⟨j, by omega, rfl, by rw [hg, t2]; exact h⟩
      rw [yesTo, yesTo, hg, t0, t1, ih (by omega)]
      simp only []
      by_cases c1 : lastT (evalT s vss[j] p) = 1
      · rw [if_pos c1, List.filter_append]
        by_cases c2 : lastT (evalT s vss[j] q) = 1
        · rw [if_pos (hj2.2 ⟨c1, c2⟩)]
          simp [hmem.2 c2]
        · rw [if_neg (fun h => c2 (hj2.1 h).2)]
          have : ¬ ((j : Int) ∈ yesTo q s vss vss.length) := fun h => c2 (hmem.1 h)
          simp [this]
      · rw [if_neg c1, if_neg (fun h => c1 (hj2.1 h).1)]
  rw [key _ (Nat.le_refl _)]
/-- Without nodes all rows are taken. -/
theorem all_rows {s : Sch} {vss : List (List Val)} (h : (selR [] s vss).2 = 0) : (selR [] s vss).1.length = vss.length := by
  unfold selR at h ⊢
  split at h
  · rename_i hc; exact absurd h hc
  · rename_i hc
    split at h
    · rename_i hr
      rw [if_neg hc, if_pos hr]
      have key : ∀ j, j ≤ vss.length → (yesTo [] s vss j).length = j := by
        intro j
        induction j with
        | zero => intro _; rfl
        | succ j ih =>
          intro hj
          have hx : vss[j]? = some vss[j] := List.getElem?_eq_getElem (by omega)
          have hg : vss.getD j [] = vss[j] := by rw [List.getD_eq_getElem?_getD, hx]; rfl
          have hrow : rowB s vss[j] = true := by
            unfold rowsOk at hr
            rw [List.take_length] at hr
            exact List.all_eq_true.1 hr _ (List.getElem_mem _)
          have ht : (truthR [] s vss[j]).1 = 1 := by rw [truthR, if_neg hc, if_pos hrow]; rfl
          rw [yesTo, hg, if_pos ht, List.length_append, ih (by omega)]
          rfl
      exact key _ (Nat.le_refl _)
    · cases h
theorem selR_ok {ns : List Nod} {s : Sch} {vss : List (List Val)} (h : (selR ns s vss).2 = 0) : checkE ns s = 0 ∧ rowsOk s vss vss.length = true ∧ (selR ns s vss).1 = yesTo ns s vss vss.length := by
  unfold selR at h ⊢
  split at h
  · rename_i hc; exact absurd h hc
  · rename_i hc
    split at h
    · rename_i hr
      rw [if_neg hc, if_pos hr]
      exact ⟨by simpa using hc, hr, rfl⟩
    · cases h
end Go.Proofs.YtafgfehjdbomfaaDoor
