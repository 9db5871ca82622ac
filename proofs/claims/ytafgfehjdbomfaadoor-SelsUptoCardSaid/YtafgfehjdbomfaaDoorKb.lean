/-
  Ka, Kb: texts put together.
-/
import Derived.Test.YtafgfehjdbomfaaDoorGa
import Derived.Test.YtafgfehjdbomfaaDoorPrL
import Derived.Test.YtafgfehjdbomfaaDoorPn
import Derived.Test.YtafgfehjdbomfaaDoorBase
import Derived.Test.YtafgfehjdbomfaaDoorGb
import Derived.Test.YtafgfehjdbomfaaDoorGe
import Derived.Test.YtafgfehjdbomfaaDoorCv
namespace Go.Proofs.YtafgfehjdbomfaaDoor
open Go.RowKit

/-- A node of a predicate that stands behind k others. -/
def shN (k : Nat) (n : Nod) : Nod := { n with l := IntKind.i64.wrap (n.l + k), r := IntKind.i64.wrap (n.r + k) }
theorem wrap_small {x : Int} (h : 0 ≤ x) (h2 : x ≤ 1000) : IntKind.i64.wrap x = x := by rw [IntKind.wrap_i64]; omega
theorem stepT_sh (s : Sch) (vs : List Val) (pre acc : List Int) (n : Nod) (h : nodB n acc.length = true) (hl : pre.length + acc.length ≤ 100) : stepT s vs (pre ++ acc) (shN pre.length n) = stepT s vs acc n := by
  have key : ∀ x : Int, ahead x acc.length = true → (pre ++ acc).getD (IntKind.i64.wrap (x + pre.length)).toNat 0 = acc.getD x.toNat 0 := by
    intro x hx
    simp only [ahead, Bool.and_eq_true, decide_eq_true_eq] at hx
    rw [wrap_small (by omega) (by omega), show (x + (pre.length : Int)).toNat = pre.length + x.toNat by omega, List.getD_eq_getElem?_getD, List.getElem?_append_right (by omega), List.getD_eq_getElem?_getD]
    simp
  unfold stepT shN
  simp only []
  split
  · rfl
  · rename_i h0
    split
    · rfl
    · rename_i h1
      unfold nodB at h
      rw [if_neg (by omega), if_neg (by omega)] at h
      split
      · rename_i h3
        rw [if_pos h3] at h
        rw [key _ h]
      · rename_i h3
        rw [if_neg h3] at h
        split at h
        · simp only [Bool.and_eq_true] at h
          rw [key _ h.1, key _ h.2]
        · cases h
theorem evalT_sh (s : Sch) (vs : List Val) (p q : List Nod) (hq : ∀ i n, q[i]? = some n → nodB n i = true) (hl : p.length + q.length ≤ 100) : ∀ k, k ≤ q.length → evalT s vs (p ++ (q.take k).map (shN p.length)) = evalT s vs p ++ evalT s vs (q.take k)
  | 0, _ => by simp [evalT]
  | k + 1, hk => by
    have hx : q[k]? = some q[k] := List.getElem?_eq_getElem (by omega)
    have e1 : q.take (k + 1) = q.take k ++ [q[k]] := by rw [List.take_add_one, hx]; rfl
    have ih := evalT_sh s vs p q hq hl k (by omega)
    have e2 : (evalT s vs (q.take k)).length = k := by rw [evalT_len, List.length_take]; omega
    have e3 := evalT_len s vs p
    rw [e1, List.map_append, ← List.append_assoc, List.map_cons, List.map_nil, evalT_snoc, ih, evalT_snoc, List.append_assoc]
    have := stepT_sh s vs (evalT s vs p) (evalT s vs (q.take k)) q[k] (by rw [e2]; exact hq k _ hx) (by omega)
    rw [e3] at this
    rw [this]
/-- Both predicates, one behind the other, and a node that asks for both. -/
def bothN (p q : List Nod) : List Nod := p ++ q.map (shN p.length) ++ [andN ((p.length : Int) - 1) ((p.length : Int) + q.length - 1)]
theorem nodB_sh {n : Nod} {k i : Nat} (h : nodB n i = true) (hl : k + i ≤ 100) : nodB (shN k n) (k + i) = true := by
  have key : ∀ x : Int, ahead x i = true → ahead (IntKind.i64.wrap (x + k)) (k + i) = true := by
    intro x hx
    simp only [ahead, Bool.and_eq_true, decide_eq_true_eq] at hx ⊢
    rw [wrap_small (by omega) (by omega)]
    omega
  unfold nodB shN at *
  simp only [] at *
  split
  · rfl
  · rename_i h0
    rw [if_neg h0] at h
    split
    · rename_i h1; rw [if_pos h1] at h; exact h
    · rename_i h1
      rw [if_neg h1] at h
      split
      · rename_i h3; rw [if_pos h3] at h; exact key _ h
      · rename_i h3
        rw [if_neg h3] at h
        split
        · rename_i h4
          rw [if_pos h4] at h
          simp only [Bool.and_eq_true] at h ⊢
          exact ⟨key _ h.1, key _ h.2⟩
        · rename_i h4
          rw [if_neg h4] at h
          cases h
theorem both_len (p q : List Nod) : (bothN p q).length = p.length + q.length + 1 := by simp [bothN]; omega
theorem checkE_app {p q : List Nod} {s : Sch} (hp : checkE p s = 0) (hq : checkE q s = 0) (hl : p.length + q.length ≤ 23) : checkE (p ++ q.map (shN p.length)) s = 0 := by
  obtain ⟨h1, h2, h3⟩ := checkE_inv hp
  obtain ⟨k1, k2, k3⟩ := checkE_inv hq
  have b1 := (predB_iff.1 h1).2
  have b2 := (predB_iff.1 k1).2
  have hb : predB (p ++ q.map (shN p.length)) = true := by
    refine predB_iff.2 ⟨by simp; omega, fun i m hm => ?_⟩
    rw [List.getElem?_append] at hm
    split at hm
    · exact b1 i m hm
    · rename_i hi
      rw [List.getElem?_map] at hm
      cases hn : q[i - p.length]? with
      | none => rw [hn] at hm; cases hm
      | some n =>
        rw [hn] at hm
        obtain rfl := Option.some.inj hm
        have hlt := (List.getElem?_eq_some_iff.1 hn).1
        have := nodB_sh (k := p.length) (b2 _ _ hn) (by omega)
        rwa [show p.length + (i - p.length) = i by omega] at this
  rw [checkE, if_pos ⟨hb, h2⟩, firstE_zero_iff]
  intro m hm
  rcases List.mem_append.1 hm with hm | hm
  · exact h3 m hm
  · obtain ⟨n, hn, rfl⟩ := List.mem_map.1 hm
    exact k3 n hn
theorem both_truth {p q : List Nod} {s : Sch} {vs : List Val} {k m : Nat} (hp : checkE p s = 0) (hq : checkE q s = 0) (hk : p.length = k + 1) (hm : q.length = m + 1) (hl : k + 1 + (m + 1) < 24) :
    checkE (bothN p q) s = 0 ∧ (rowB s vs = true → truthR (bothN p q) s vs = (joinT 4 (lastT (evalT s vs p)) (lastT (evalT s vs q)), 0)) := by
  have hc := checkE_app hp hq (by omega)
  have hlen : (p ++ q.map (shN p.length)).length = k + m + 2 := by simp; omega
  have e : bothN p q = p ++ q.map (shN p.length) ++ [andN (k : Int) ((k + m + 1 : Nat) : Int)] := by
    unfold bothN
    rw [show (p.length : Int) - 1 = (k : Int) by omega, show (p.length : Int) + q.length - 1 = ((k + m + 1 : Nat) : Int) by omega]
  have hn : nodB (andN (k : Int) ((k + m + 1 : Nat) : Int)) (p ++ q.map (shN p.length)).length = true := nodB_and (by omega) (by omega)
  refine ⟨by rw [e]; exact checkE_snoc hc (by simp [andN]) (by omega) hn, fun hr => ?_⟩
  rw [e, truthR_snoc hc hr (by simp [andN]) (by omega) hn]
  have ev := evalT_sh s vs p q (fun i n h => ((predB_iff.1 (checkE_inv hq).1).2 i n h)) (by omega) q.length (Nat.le_refl _)
  rw [List.take_length] at ev
  have lp := evalT_last (s := s) (vs := vs) hk
  have lq := evalT_last (s := s) (vs := vs) hm
  have l1 := evalT_len s vs p
  have l2 := evalT_len s vs q
  rw [ev]
  have g1 : (evalT s vs p ++ evalT s vs q).getD k 0 = lastT (evalT s vs p) := by rw [getD_left (by omega)]; exact lp
  have g2 : (evalT s vs p ++ evalT s vs q).getD (k + m + 1) 0 = lastT (evalT s vs q) := by
    rw [← lq, List.getD_eq_getElem?_getD, List.getElem?_append_right (by omega), List.getD_eq_getElem?_getD, show k + m + 1 - (evalT s vs p).length = m by omega]
  unfold stepT andN
  simp only [Int.toNat_natCast, g1, g2]
  rfl
theorem join_yes {a b : Int} (ha : Tr a) (hb : Tr b) : joinT 4 a b = 1 ↔ a = 1 ∧ b = 1 := by
  rcases ha with rfl | rfl | rfl <;> rcases hb with rfl | rfl | rfl <;> decide
/-- What stands in both lists, i of the first looked at. -/
def wantTo (a b : List Int) : Nat → List Int
  | 0 => []
  | i + 1 => wantTo a b i ++ b.filter (· == a.getD i 0)
theorem yes_mem {ns : List Nod} {s : Sch} {vss : List (List Val)} {x : Int} : ∀ {k : Nat}, x ∈ yesTo ns s vss k ↔ ∃ i : Nat, i < k ∧ x = (i : Int) ∧ (truthR ns s (vss.getD i [])).1 = 1
  | 0 => by simp [yesTo]
  | k + 1 => by
    rw [yesTo]
    split
    · rename_i h
      rw [List.mem_append, yes_mem]
      constructor
      · rintro (⟨i, h1, h2, h3⟩ | h1)
        · exact ⟨i, by omega, h2, h3⟩
        · simp at h1; exact ⟨k, by omega, h1, h⟩
      · rintro ⟨i, h1, h2, h3⟩
        by_cases e : i = k
        · subst e; exact .inr (by simp [h2])
        · exact .inl ⟨i, by omega, h2, h3⟩
    · rename_i h
      rw [yes_mem]
      constructor
      · rintro ⟨i, h1, h2, h3⟩; exact ⟨i, by omega, h2, h3⟩
      · rintro ⟨i, h1, h2, h3⟩
        by_cases e : i = k
        · subst e; exact absurd h3 h
        · exact ⟨i, by omega, h2, h3⟩
theorem yes_nodup (ns : List Nod) (s : Sch) (vss : List (List Val)) : ∀ k, (yesTo ns s vss k).Pairwise (fun x y : Int => x ≠ y)
  | 0 => List.Pairwise.nil
  | k + 1 => by
    have ih := yes_nodup ns s vss k
    rw [yesTo]
    split
    · rw [List.pairwise_append]
      refine ⟨ih, List.pairwise_singleton _ _, fun x hx y hy => ?_⟩
      obtain ⟨i, h1, rfl, _⟩ := yes_mem.1 hx
      simp at hy
      subst hy
      omega
    · exact ih
theorem filter_one : ∀ {b : List Int}, b.Pairwise (fun x y : Int => x ≠ y) → ∀ x : Int, b.filter (· == x) = if x ∈ b then [x] else []
  | [], _, x => by simp
  | y :: b, h, x => by
    have h2 := List.pairwise_cons.1 h
    have ih := filter_one h2.2 x
    rw [List.filter_cons]
    by_cases e : y = x
    · subst e
      have hn : ¬ y ∈ b := fun hm => h2.1 y hm rfl
      rw [if_pos (by simp), ih, if_neg hn, if_pos (by simp)]
    · rw [if_neg (by simpa using e), ih]
      have : (x ∈ y :: b) ↔ x ∈ b := by simp; exact fun h => absurd h.symm e
      simp only [this]
theorem want_eq {a b : List Int} (hb : b.Pairwise (fun x y : Int => x ≠ y)) : ∀ i, i ≤ a.length → wantTo a b i = (a.take i).filter (fun x => decide (x ∈ b))
  | 0, _ => by simp [wantTo]
  | i + 1, hi => by
    have hx : a[i]? = some a[i] := List.getElem?_eq_getElem (by omega)
    rw [wantTo, want_eq hb i (by omega), List.take_add_one, hx, List.filter_append, filter_one hb, List.getD_eq_getElem?_getD, hx]
    simp only [Option.getD_some, Option.toList_some, List.filter_cons, List.filter_nil, decide_eq_true_eq]
theorem want_len {a b : List Int} (hb : b.Pairwise (fun x y : Int => x ≠ y)) {i : Nat} (hi : i ≤ a.length) (j : Nat) : (wantTo a b i).length + ((b.take j).filter (· == a.getD i 0)).length ≤ i + 1 := by
  have h1 : (wantTo a b i).length ≤ i := by
    rw [want_eq hb i hi]
    exact Nat.le_trans (List.length_filter_le _ _) (by rw [List.length_take]; omega)
  have h2 : ((b.take j).filter (· == a.getD i 0)).length ≤ 1 := by
    rw [filter_one (hb.sublist (List.take_sublist j b))]
    split <;> simp
  omega
/-- The rows that both take. -/
theorem both_rows {p q : List Nod} {s : Sch} {vss : List (List Val)} {k m : Nat} (hp : checkE p s = 0) (hq : checkE q s = 0) (hk : p.length = k + 1) (hm : q.length = m + 1) (hl : k + 1 + (m + 1) < 24) (hr : rowsOk s vss vss.length = true) :
    selR (bothN p q) s vss = (wantTo (yesTo p s vss vss.length) (yesTo q s vss vss.length) (yesTo p s vss vss.length).length, 0) := by
  have hc := (both_truth (vs := []) hp hq hk hm hl).1
  rw [selR, if_neg (by rw [hc]; simp), if_pos hr, want_eq (yes_nodup _ _ _ _) _ (Nat.le_refl _), List.take_length]
  have key : ∀ j, j ≤ vss.length → yesTo (bothN p q) s vss j = (yesTo p s vss j).filter (fun x => decide (x ∈ yesTo q s vss vss.length)) := by
    intro j
    induction j with
    | zero => intro _; simp [yesTo]
    | succ j ih =>
      intro hj
      have hx : vss[j]? = some vss[j] := List.getElem?_eq_getElem (by omega)
      have hg : vss.getD j [] = vss[j] := by rw [List.getD_eq_getElem?_getD, hx]; rfl
      have hrow : rowB s vss[j] = true := by
        unfold rowsOk at hr
        rw [List.take_length] at hr
        exact List.all_eq_true.1 hr _ (List.getElem_mem _)
      have t0 := (both_truth (vs := vss[j]) hp hq hk hm hl).2 hrow
      have t1 : truthR p s vss[j] = (lastT (evalT s vss[j] p), 0) := by rw [truthR, if_neg (by rw [hp]; simp), if_pos hrow]
      have t2 : truthR q s vss[j] = (lastT (evalT s vss[j] q), 0) := by rw [truthR, if_neg (by rw [hq]; simp), if_pos hrow]
      have hj2 := join_yes (lastT_tr s vss[j] p) (lastT_tr s vss[j] q)
      have hmem : ((j : Int) ∈ yesTo q s vss vss.length) ↔ lastT (evalT s vss[j] q) = 1 := by
        rw [yes_mem]
        constructor
        · rintro ⟨i, _, h2, h3⟩
          obtain rfl : j = i := by omega
          rw [hg, t2] at h3
          exact h3
        · intro h; exact ⟨j, by omega, rfl, by rw [hg, t2]; exact h⟩
      rw [yesTo, yesTo, hg, t0, t1, ih (by omega)]
      simp only []
      by_cases c1 : lastT (evalT s vss[j] p) = 1
      · rw [if_pos c1, List.filter_append]
        by_cases c2 : lastT (evalT s vss[j] q) = 1
        · rw [if_pos (hj2.2 ⟨c1, c2⟩)]
          simp [hmem.2 c2]
        · rw [if_neg (fun h => c2 (hj2.1 h).2)]
          have : ¬ ((j : Int) ∈ yesTo q s vss vss.length) := fun h => c2 (hmem.1 h)
          simp [this]
      · rw [if_neg c1, if_neg (fun h => c1 (hj2.1 h).1)]
  rw [key _ (Nat.le_refl _)]
/-- Without nodes all rows are taken. -/
theorem all_rows {s : Sch} {vss : List (List Val)} (h : (selR [] s vss).2 = 0) : (selR [] s vss).1.length = vss.length := by
  unfold selR at h ⊢
  split at h
  · rename_i hc; exact absurd h hc
  · rename_i hc
    split at h
    · rename_i hr
      rw [if_neg hc, if_pos hr]
      have key : ∀ j, j ≤ vss.length → (yesTo [] s vss j).length = j := by
        intro j
        induction j with
        | zero => intro _; rfl
        | succ j ih =>
          intro hj
          have hx : vss[j]? = some vss[j] := List.getElem?_eq_getElem (by omega)
          have hg : vss.getD j [] = vss[j] := by rw [List.getD_eq_getElem?_getD, hx]; rfl
          have hrow : rowB s vss[j] = true := by
            unfold rowsOk at hr
            rw [List.take_length] at hr
            exact List.all_eq_true.1 hr _ (List.getElem_mem _)
          have ht : (truthR [] s vss[j]).1 = 1 := by rw [truthR, if_neg hc, if_pos hrow]; rfl
          rw [yesTo, hg, if_pos ht, List.length_append, ih (by omega)]
          rfl
      exact key _ (Nat.le_refl _)
    · cases h
theorem selR_ok {ns : List Nod} {s : Sch} {vss : List (List Val)} (h : (selR ns s vss).2 = 0) : checkE ns s = 0 ∧ rowsOk s vss vss.length = true ∧ (selR ns s vss).1 = yesTo ns s vss vss.length := by
  unfold selR at h ⊢
  split at h
  · rename_i hc; exact absurd h hc
  · rename_i hc
    split at h
    · rename_i hr
      rw [if_neg hc, if_pos hr]
      exact ⟨by simpa using hc, hr, rfl⟩
    · cases h
end Go.Proofs.YtafgfehjdbomfaaDoor
namespace Go.Proofs.YtafgfehjdbomfaaDoor
open Go.RowKit

/-- How many places are met ahead of i, and the others. -/
def stO (at_ : List Int) : Nat → Nat × List Int
  | 0 => (0, [])
  | i + 1 => if at_[(stO at_ i).1]? = some (i : Int) then ((stO at_ i).1 + 1, (stO at_ i).2) else ((stO at_ i).1, (stO at_ i).2 ++ [(i : Int)])
def outO (many : Int) (at_ : List Int) : List Int × Bool :=
  if many < 0 ∨ 4096 < many then ([], false) else if (stO at_ many.toNat).1 = at_.length then ((stO at_ many.toNat).2, true) else ([], false)
theorem stO_hit {at_ : List Int} {i k : Nat} {o : List Int} (h : stO at_ i = (k, o)) (hx : at_[k]? = some (i : Int)) : stO at_ (i + 1) = (k + 1, o) := by
  rw [stO, h]; simp only []; rw [if_pos hx]
theorem stO_miss {at_ : List Int} {i k : Nat} {o : List Int} (h : stO at_ i = (k, o)) (hx : at_[k]? ≠ some (i : Int)) : stO at_ (i + 1) = (k, o ++ [(i : Int)]) := by
  rw [stO, h]; simp only []; rw [if_neg hx]

set_option maxRecDepth 100000 in
set_option maxHeartbeats 16000000 in
theorem rwithout_any {w0 : World} (many : Int) (at_ : List Int) (Aa : Option Addr) (ca : Nat) (w : World) (ha : SlAt w0 w0.heap.size 1 Aa (intCells at_)) [f0 : Fut w0 w] (hal : at_.length ≤ 4611686018427387904) :
    Calls Tryd.prog 16 #[.int .i64 many, .slice Aa at_.length ca] w fun e w' => ∃ (A' : Option Addr) (c' : Nat), e = .returned (.tuple #[.slice A' (outO many at_).1.length c', .bool (outO many at_).2]) ∧ Own w' w.heap.size 3 1 (.slice A' (outO many at_).1.length c') (intCells (outO many at_).1) ∧ Step w w' := by
  have z0 := f0.below.size
  obtain ⟨T, hT⟩ : ∃ T, outO many at_ = T := ⟨_, rfl⟩
  have HT := hide hT
  rw [hT]
  clear hT
  by_cases h0 : many < 0
  · have hE : Hid (T = ([], false)) := by show _ = _; rw [← HT.out, outO, if_pos (.inl h0)]
    go_enter Tryd.func16, Tryd.ntmps16
    go_wp2_with fail
    go_ret2
    exact ⟨none, 0, by rw [hE.out]; rfl, by rw [hE.out]; exact Own.nil_ _ _ _ _, Step.of⟩
  · by_cases h1 : 4096 < many
    · have hE : Hid (T = ([], false)) := by show _ = _; rw [← HT.out, outO, if_pos (.inr h1)]
      go_enter Tryd.func16, Tryd.ntmps16
      go_wp2_with fail
      go_ret2
      exact ⟨none, 0, by rw [hE.out]; rfl, by rw [hE.out]; exact Own.nil_ _ _ _ _, Step.of⟩
    · obtain ⟨M, rfl⟩ : ∃ M : Nat, many = (M : Int) := ⟨many.toNat, by omega⟩
      have hM : M ≤ 4096 := by omega
      have HNB : Hid (¬ ((M : Int) < 0 ∨ 4096 < (M : Int))) := by show ¬ _; omega
      go_enter Tryd.func16, Tryd.ntmps16
      go_wp2_with fail
      clear h0 h1
      go_loopw [6, 7, 8] (fun out kk ii wr => ∃ (i k m : Nat) (A' : Option Addr) (c' : Nat) (o : List Int), i ≤ M ∧ ii = .int .i64 i ∧ Hid (stO at_ i = (k, o)) ∧ k ≤ at_.length ∧ kk = .int .i64 k ∧ out = .slice A' m c' ∧ Hid (o.length = m) ∧ m ≤ i ∧ Own wr w.heap.size 3 1 (.slice A' m c') (intCells o) ∧ Step w wr) (fun _ _ ii _ => M - (intOf ii).toNat)
      case atStart => exact ⟨0, 0, 0, none, 0, [], Nat.zero_le _, rfl, rfl, Nat.zero_le _, rfl, rfl, rfl, Nat.le_refl _, Own.nil_ _ _ _ _, Step.of⟩
      case round =>
        obtain ⟨i, k, m, A', c', o, hi, rfl, HS, hk, rfl, rfl, HM, hmi, hown, hst⟩ := hrel
        have HO := hide hown; clear hown
        obtain ⟨wo, rfl⟩ : ∃ x : World, x = wr := ⟨_, rfl⟩
        have hzo := hst.size
        by_cases hlt : i < M
        · have hiM : (i : Int) < (M : Int) := by omega
          by_cases hka : k < at_.length
          · obtain ⟨b, off, rfl, hb, hc⟩ := ha.elem (w' := wo) inferInstance (k := k) (by rw [intCells_len]; exact hka)
            obtain ⟨x, hx⟩ : ∃ x, at_[k]? = some x := ⟨_, List.getElem?_eq_getElem hka⟩
            have x0 := At.l1 (hc k [.int .i64 x] (by simp [intCells, hx]))
            simp only [Nat.mul_one] at x0
            have hlb : b < wo.heap.size := by omega
            have hkl : (k : Int) < (at_.length : Int) := by omega
            have hk0 : (0 : Int) ≤ (k : Int) := by omega
            have HX := hide hx
            clear hc hx
            by_cases hxi : x = (i : Int)
            · subst hxi
              have HYES := hide (stO_hit HS.out HX.out)
              go_wp2_with fail
              go_roundw
              case rel => exact ⟨i + 1, k + 1, m, A', c', o, by omega, by go_num, HYES, by omega, by go_num, rfl, HM, by omega, HO.out, Step.of⟩
              case measure => simp [intOf]; omega
            · have HNO := hide (stO_miss HS.out (by rw [HX.out]; simpa using hxi))
              have exi : (x == (i : Int)) = false := by simpa using hxi
              clear hxi
              have HNew := hide (SlAt.one wo 1 [.int .i64 (i : Int)] 3)
              have HOw := hide (HO.out.alloc (.cells #[.int .i64 (i : Int)] 3))
              go_wp2_with (at_builtin; go_loud (refine wpList_append_sl rfl (.tmp 34) (.tmp 36) 29 rfl eiInt (base := w.heap.size) (xs := intCells o) rfl HOw.out (int_fit _) (ys := [[.int .i64 (i : Int)]]) rfl (by simp) HNew.out (int_fit [(i : Int)]) (by rw [intCells_len, HM.out]; show (m + 1) * 8 ≤ _; omega) (fut w (wo.alloc (.cells #[.int .i64 (i : Int)] 3))).size (N := m + 1) (by rw [intCells_len, HM.out]; rfl) ?_; intro A5 c5 w5 hq5 hq6 hown5 hgr5 hbel5; have H5 := hide hown5; have HB5 := hide hbel5; clear hown5 hgr5 hbel5))
              go_roundw
              case rel =>
                refine ⟨i + 1, k, m + 1, A5, c5, o ++ [(i : Int)], by omega, by go_num, HNO, hk, rfl, rfl, ?_, by omega, ?_, ⟨(fut w (wo.alloc (.cells #[.int .i64 (i : Int)] 3))).trans HB5.out⟩⟩
                · show _ = _
                  rw [List.length_append, HM.out]; rfl
                · have := H5.out
                  simpa [intCells] using this
              case measure => simp [intOf]; omega
          · have hkl : ¬ (k : Int) < (at_.length : Int) := by omega
            have HNO := hide (stO_miss HS.out (by rw [List.getElem?_eq_none (by omega)]; simp))
            have HNew := hide (SlAt.one wo 1 [.int .i64 (i : Int)] 3)
            have HOw := hide (HO.out.alloc (.cells #[.int .i64 (i : Int)] 3))
            go_wp2_with (at_builtin; go_loud (refine wpList_append_sl rfl (.tmp 34) (.tmp 36) 29 rfl eiInt (base := w.heap.size) (xs := intCells o) rfl HOw.out (int_fit _) (ys := [[.int .i64 (i : Int)]]) rfl (by simp) HNew.out (int_fit [(i : Int)]) (by rw [intCells_len, HM.out]; show (m + 1) * 8 ≤ _; omega) (fut w (wo.alloc (.cells #[.int .i64 (i : Int)] 3))).size (N := m + 1) (by rw [intCells_len, HM.out]; rfl) ?_; intro A5 c5 w5 hq5 hq6 hown5 hgr5 hbel5; have H5 := hide hown5; have HB5 := hide hbel5; clear hown5 hgr5 hbel5))
            go_roundw
            case rel =>
              refine ⟨i + 1, k, m + 1, A5, c5, o ++ [(i : Int)], by omega, by go_num, HNO, hk, rfl, rfl, ?_, by omega, ?_, ⟨(fut w (wo.alloc (.cells #[.int .i64 (i : Int)] 3))).trans HB5.out⟩⟩
              · show _ = _
                rw [List.length_append, HM.out]; rfl
              · have := H5.out
                simpa [intCells] using this
            case measure => simp [intOf]; omega
        · obtain rfl : i = M := by omega
          have hiM : ¬ (i : Int) < (i : Int) := by omega
          by_cases hka : k = at_.length
          · have hE : Hid (T = (o, true)) := by show _ = _; rw [← HT.out, outO, if_neg HNB.out, Int.toNat_natCast, HS.out]; simp only []; rw [if_pos hka]
            have eka : ((k : Int) != (at_.length : Int)) = false := by simp; omega
            clear hka
            go_wp2_with fail
            go_ret2
            exact ⟨A', c', by rw [hE.out, HM.out]; rfl, by rw [hE.out, HM.out]; exact HO.out, Step.of⟩
          · have hE : Hid (T = ([], false)) := by show _ = _; rw [← HT.out, outO, if_neg HNB.out, Int.toNat_natCast, HS.out]; simp only []; rw [if_neg hka]
            have eka : ((k : Int) != (at_.length : Int)) = true := by simp; omega
            clear hka
            go_wp2_with fail
            go_ret2
            exact ⟨none, 0, by rw [hE.out]; rfl, by rw [hE.out]; exact Own.nil_ _ _ _ _, Step.of⟩
end Go.Proofs.YtafgfehjdbomfaaDoor
namespace Go.Proofs.YtafgfehjdbomfaaDoor
open Go.RowKit

theorem stO_run {at_ : List Int} {n j : Nat} {o : List Int} (h : stO at_ n = (j, o)) : ∀ m, n ≤ m → (∀ i : Nat, n ≤ i → i < m → at_[j]? ≠ some (i : Int)) → stO at_ m = (j, o ++ rangeI n m)
  | 0, hm, _ => by
    obtain rfl : n = 0 := by omega
    rw [h, rangeI_self, List.append_nil]
  | m + 1, hm, hne => by
    by_cases e : n = m + 1
    · subst e; rw [h, rangeI_self, List.append_nil]
    · have ih := stO_run h m (by omega) fun i h1 h2 => hne i h1 (by omega)
      rw [stO_miss ih (hne m (by omega) (by omega)), rangeI_succ (by omega), List.append_assoc]
theorem stO_stW {M : Nat} {at_ : List Int} : ∀ j n o, j ≤ at_.length → stW (M : Int) at_ j = some (n, o) → stO at_ n = (j, o)
  | 0, n, o, _, h => by
    simp [stW] at h
    obtain ⟨rfl, rfl⟩ := h
    rfl
  | j + 1, n, o, hj, h => by
    rw [stW] at h
    cases hs : stW (M : Int) at_ j with
    | none => rw [hs] at h; simp at h
    | some s0 =>
      obtain ⟨n0, o0⟩ := s0
      rw [hs] at h
      simp only at h
      split at h
      · simp at h
      · rename_i hc
        have hx : at_[j]? = some at_[j] := List.getElem?_eq_getElem (by omega)
        have hg : at_.getD j 0 = at_[j] := by rw [List.getD_eq_getElem?_getD, hx]; rfl
        rw [hg] at h hc
        obtain ⟨xn, hxn⟩ : ∃ xn : Nat, at_[j] = (xn : Int) := ⟨at_[j].toNat, by omega⟩
        rw [hxn] at h hc hx
        simp at h
        obtain ⟨rfl, rfl⟩ := h
        have ih := stO_stW j n0 o0 (by omega) hs
        have hr := stO_run ih xn (by omega) fun i h1 h2 => by rw [hx]; simp; omega
        exact stO_hit hr hx
theorem out_without (many : Int) (at_ : List Int) : outO many at_ = ((withoutR many at_).1, (withoutR many at_).2 == 0) := by
  unfold outO withoutR
  by_cases hb : many < 0 ∨ 4096 < many
  · rw [if_pos hb, if_pos hb]; rfl
  · rw [if_neg hb, if_neg hb]
    obtain ⟨M, rfl⟩ : ∃ M : Nat, many = (M : Int) := ⟨many.toNat, by omega⟩
    have hbd := stW_bd (many := (M : Int)) (at_ := at_) ⟨by omega, by omega⟩
    rw [Int.toNat_natCast]
    cases hs : stW (M : Int) at_ at_.length with
    | some st =>
      obtain ⟨n, o⟩ := st
      have hn := (hbd _ _ hs).1
      have h1 := stO_stW _ n o (Nat.le_refl _) hs
      have h2 := stO_run h1 M (by simpa using hn) fun i _ _ => by rw [List.getElem?_eq_none (Nat.le_refl _)]; simp
      rw [h2, if_pos rfl]
      rfl
    | none =>
      -- the first place that falls
      have key : ∃ j n o x, j < at_.length ∧ stW (M : Int) at_ j = some (n, o) ∧ at_[j]? = some x ∧ (x < (n : Int) ∨ (M : Int) ≤ x) := by
        have : ∀ k, k ≤ at_.length → stW (M : Int) at_ k = none → ∃ j n o x, j < at_.length ∧ stW (M : Int) at_ j = some (n, o) ∧ at_[j]? = some x ∧ (x < (n : Int) ∨ (M : Int) ≤ x) := by
          intro k
          induction k with
          | zero => intro _ h; simp [stW] at h
          | succ k ih =>
            intro hk h
            cases hk2 : stW (M : Int) at_ k with
            | none => exact ih (by omega) hk2
            | some s0 =>
              obtain ⟨n0, o0⟩ := s0
              have hx : at_[k]? = some at_[k] := List.getElem?_eq_getElem (by omega)
              have hg : at_.getD k 0 = at_[k] := by rw [List.getD_eq_getElem?_getD, hx]; rfl
              rw [stW, hk2] at h
              simp only [hg] at h
              split at h
              · rename_i hc; exact ⟨k, n0, o0, at_[k], by omega, hk2, hx, hc⟩
              · simp at h
        exact this _ (Nat.le_refl _) hs
      obtain ⟨j, n, o, x, hj, hst, hx, hbad⟩ := key
      have hn := (hbd _ _ hst).1
      have h1 := stO_stW j n o (by omega) hst
      have h2 := stO_run h1 M (by simpa using hn) fun i h1 h2 => by rw [hx]; simp; omega
      rw [h2, if_neg (by simp only []; omega)]
      rfl
end Go.Proofs.YtafgfehjdbomfaaDoor
namespace Go.Proofs.YtafgfehjdbomfaaDoor
open Go.RowKit

/-- The places ahead of k whose truth is not yes. -/
def noTo (ns : List Nod) (s : Sch) (vss : List (List Val)) : Nat → List Int
  | 0 => []
  | k + 1 => if (truthR ns s (vss.getD k [])).1 = 1 then noTo ns s vss k else noTo ns s vss k ++ [(k : Int)]
theorem yes_no_perm (ns : List Nod) (s : Sch) (vss : List (List Val)) : ∀ k, (yesTo ns s vss k ++ noTo ns s vss k).Perm (rangeI 0 k)
  | 0 => List.Perm.refl _
  | k + 1 => by
    have ih := yes_no_perm ns s vss k
    rw [yesTo, noTo, rangeI_succ (Nat.zero_le _)]
    split
    · rw [List.append_assoc]
      refine List.Perm.trans (List.Perm.append_left _ List.perm_append_comm) ?_
      rw [← List.append_assoc]
      exact List.Perm.append_right _ ih
    · rw [← List.append_assoc]
      exact List.Perm.append_right _ ih
theorem yes_pre (ns : List Nod) (s : Sch) (vss : List (List Val)) (k : Nat) : ∀ d, ∃ r, yesTo ns s vss (k + d) = yesTo ns s vss k ++ r ∧ ∀ x ∈ r, (k : Int) ≤ x
  | 0 => ⟨[], by simp, by simp⟩
  | d + 1 => by
    obtain ⟨r, h1, h2⟩ := yes_pre ns s vss k d
    rw [show k + (d + 1) = (k + d) + 1 by omega, yesTo]
    split
    · refine ⟨r ++ [((k + d : Nat) : Int)], by rw [h1, List.append_assoc], fun x hx => ?_⟩
      rcases List.mem_append.1 hx with hx | hx
      · exact h2 x hx
      · simp at hx; omega
    · exact ⟨r, h1, h2⟩
theorem stO_yes (ns : List Nod) (s : Sch) (vss : List (List Val)) (n : Nat) : ∀ i, i ≤ n → stO (yesTo ns s vss n) i = ((yesTo ns s vss i).length, noTo ns s vss i)
  | 0, _ => rfl
  | i + 1, hi => by
    have ih := stO_yes ns s vss n i (by omega)
    by_cases h : (truthR ns s (vss.getD i [])).1 = 1
    · obtain ⟨r, h1, _⟩ := yes_pre ns s vss (i + 1) (n - (i + 1))
      rw [show i + 1 + (n - (i + 1)) = n by omega] at h1
      have e : yesTo ns s vss (i + 1) = yesTo ns s vss i ++ [(i : Int)] := by rw [yesTo, if_pos h]
      have hx : (yesTo ns s vss n)[(yesTo ns s vss i).length]? = some (i : Int) := by
        rw [h1, e, List.append_assoc, List.getElem?_append_right (Nat.le_refl _)]
        simp
      rw [stO_hit ih hx, e, noTo, if_pos h, List.length_append]
      rfl
    · obtain ⟨r, h1, h2⟩ := yes_pre ns s vss (i + 1) (n - (i + 1))
      rw [show i + 1 + (n - (i + 1)) = n by omega] at h1
      have e : yesTo ns s vss (i + 1) = yesTo ns s vss i := by rw [yesTo, if_neg h]
      have hx : (yesTo ns s vss n)[(yesTo ns s vss i).length]? ≠ some (i : Int) := by
        rw [h1, e, List.getElem?_append_right (Nat.le_refl _), Nat.sub_self]
        intro hr
        have := h2 _ (List.mem_of_getElem? hr)
        omega
      rw [stO_miss ih hx, e, noTo, if_neg h]
/-- The places that a predicate does not take. -/
theorem without_yes (ns : List Nod) (s : Sch) (vss : List (List Val)) (n : Nat) (hn : n ≤ 4096) : withoutR (n : Int) (yesTo ns s vss n) = (noTo ns s vss n, 0) := by
  have h := out_without (n : Int) (yesTo ns s vss n)
  have h2 : outO (n : Int) (yesTo ns s vss n) = (noTo ns s vss n, true) := by
    rw [outO, if_neg (by omega), Int.toNat_natCast, stO_yes ns s vss n n (Nat.le_refl _), if_pos rfl]
  rw [h2] at h
  injection h with e1 e2
  refine Prod.ext e1.symm ?_
  simpa using e2.symm
theorem take_ok {n : Nat} {l : List Int} (h : ∀ x ∈ l, 0 ≤ x ∧ x < (n : Int)) : takeOk n l l.length = true := by
  unfold takeOk
  rw [List.take_length, List.all_eq_true]
  intro x hx
  have := h x hx
  simp
  omega
theorem range_mem (x : Int) : ∀ n, x ∈ rangeI 0 n ↔ 0 ≤ x ∧ x < (n : Int)
  | 0 => by simp [rangeI]
  | n + 1 => by
    rw [rangeI_succ (Nat.zero_le _), List.mem_append, range_mem x n]
    simp
    omega
theorem range_map {α : Type} (vss : List α) (d : α) : ∀ n, n ≤ vss.length → (rangeI 0 n).map (fun k => vss.getD k.toNat d) = vss.take n
  | 0, _ => by simp [rangeI]
  | n + 1, h => by
    have hx : vss[n]? = some vss[n] := List.getElem?_eq_getElem (by omega)
    rw [rangeI_succ (Nat.zero_le _), List.map_append, range_map vss d n (by omega), List.take_add_one, hx]
    simp [List.getD_eq_getElem?_getD, hx]
/-- What is taken and what is left are all rows. -/
theorem parts_perm {ns : List Nod} {s : Sch} {vss : List (List Val)} :
    ∃ a b, takeR vss (yesTo ns s vss vss.length) = (a, 0) ∧ takeR vss (noTo ns s vss vss.length) = (b, 0) ∧ a.length + b.length = vss.length ∧ (a ++ b).Perm (vss.map fun vs => vs.map clean) ∧ a.length = (yesTo ns s vss vss.length).length ∧ b.length = (noTo ns s vss vss.length).length := by
  have hp := yes_no_perm ns s vss vss.length
  have hy : takeOk vss.length (yesTo ns s vss vss.length) (yesTo ns s vss vss.length).length = true := take_ok fun x hx => (range_mem x _).1 (hp.mem_iff.1 (List.mem_append.2 (.inl hx)))
  have hz : takeOk vss.length (noTo ns s vss vss.length) (noTo ns s vss vss.length).length = true := take_ok fun x hx => (range_mem x _).1 (hp.mem_iff.1 (List.mem_append.2 (.inr hx)))
  refine ⟨_, _, by rw [takeR, if_pos hy], by rw [takeR, if_pos hz], ?_, ?_, by simp [takeTo], by simp [takeTo]⟩
  · have := hp.length_eq
    rw [List.length_append, rangeI_len] at this
    simpa [takeTo] using this
  · unfold takeTo
    rw [List.take_length, List.take_length, ← List.map_append]
    refine (hp.map _).trans ?_
    have h2 := range_map vss [] vss.length (Nat.le_refl _)
    rw [List.take_length] at h2
    have h3 : (rangeI 0 vss.length).map (fun k => (vss.getD k.toNat []).map clean) = vss.map fun vs => vs.map clean := by
      have h4 := congrArg (List.map fun vs : List Val => vs.map clean) h2
      rw [List.map_map] at h4
      exact h4
    rw [h3]
end Go.Proofs.YtafgfehjdbomfaaDoor
