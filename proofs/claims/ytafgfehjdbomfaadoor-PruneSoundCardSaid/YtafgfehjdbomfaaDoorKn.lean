/-
  Km, Kn: texts put together.
-/
import Derived.Test.YtafgfehjdbomfaaDoorTi
import Derived.Test.YtafgfehjdbomfaaDoorTd
import Derived.Test.YtafgfehjdbomfaaDoorSp
import Derived.Test.YtafgfehjdbomfaaDoorPdoc
import Derived.Test.YtafgfehjdbomfaaDoorCv
import Derived.Test.YtafgfehjdbomfaaDoorPn
import Derived.Test.YtafgfehjdbomfaaDoorPrL
import Derived.Test.YtafgfehjdbomfaaDoorTg
import Derived.Test.YtafgfehjdbomfaaDoorGc
namespace Go.Proofs.YtafgfehjdbomfaaDoor
open Go.RowKit

theorem fi_ge {α : Type} (p : α → Bool) (l : List α) : ∀ k, k ≤ l.length → (∀ i (h : i < l.length), i < k → p l[i] = false) → k ≤ l.findIdx p
  | 0, _, _ => Nat.zero_le _
  | k + 1, hk, h => fi_miss p l k (by omega) (fi_ge p l k (by omega) fun i hi hik => h i hi (by omega)) (h k (by omega) (by omega))

/-! ### What a walk's sets hold -/
theorem orS_bit (a b i : Nat) : (orS a b).testBit i = (a.testBit i || b.testBit i) := by unfold orS; rw [Nat.testBit_or]
theorem join3_has : ∀ a, a < 8 → ∀ x, x < 3 → a.testBit x = true → (joinS 3 a a).testBit (joinT 3 (x : Nat) (x : Nat)).toNat = true := by decide +kernel
theorem join4_has (a : Nat) (ha : a < 8) (b : Nat) (hb : b < 8) (x : Nat) (hx : x < 3) (y : Nat) (hy : y < 3) (h1 : a.testBit x = true) (h2 : b.testBit y = true) : (joinS 4 a b).testBit (joinT 4 (x : Nat) (y : Nat)).toNat = true := by
  have key : ∀ (a b : Fin 8) (x y : Fin 3), a.1.testBit x.1 = true → b.1.testBit y.1 = true → (joinS 4 a.1 b.1).testBit (joinT 4 (x.1 : Nat) (y.1 : Nat)).toNat = true := by decide +kernel
  exact key ⟨a, ha⟩ ⟨b, hb⟩ ⟨x, hx⟩ ⟨y, hy⟩ h1 h2
theorem join5_has (a : Nat) (ha : a < 8) (b : Nat) (hb : b < 8) (x : Nat) (hx : x < 3) (y : Nat) (hy : y < 3) (h1 : a.testBit x = true) (h2 : b.testBit y = true) : (joinS 5 a b).testBit (joinT 5 (x : Nat) (y : Nat)).toNat = true := by
  have key : ∀ (a b : Fin 8) (x y : Fin 3), a.1.testBit x.1 = true → b.1.testBit y.1 = true → (joinS 5 a.1 b.1).testBit (joinT 5 (x.1 : Nat) (y.1 : Nat)).toNat = true := by decide +kernel
  exact key ⟨a, ha⟩ ⟨b, hb⟩ ⟨x, hx⟩ ⟨y, hy⟩ h1 h2
/-- The truths that a walk's sets hold. -/
theorem walk_holds {ns : List Nod} {s : Sch} {vs : List Val} {leaf : Nod → Nat} (hc : checkE ns s = 0) (h8 : ∀ n, leaf n < 8)
    (hl : ∀ n ∈ ns, (n.kind = 1 ∨ n.kind = 2) → (leaf n).testBit (leafT n (vs.getD (s.cols.findIdx (named n.col)) Val.zero)).toNat = true) :
    ∀ k, k ≤ ns.length → ∀ i, i < k → ((evalW leaf (ns.take k)).getD i 0).testBit ((evalT s vs (ns.take k)).getD i 0).toNat = true
  | 0, _, i, hi => by omega
  | k + 1, hk, i, hi => by
    have ih := walk_holds hc h8 hl k (by omega)
    have hn : ns[k]? = some ns[k] := List.getElem?_eq_getElem (by omega)
    have lw : (evalW leaf (ns.take k)).length = k := by rw [evalW_len, List.length_take]; omega
    have lt : (evalT s vs (ns.take k)).length = k := by rw [evalT_len, List.length_take]; omega
    rw [evalW_take leaf ns k _ hn, evalT_take s vs ns k _ hn]
    by_cases e : i < k
    · rw [getD_left (by omega), getD_left (by omega)]
      exact ih i e
    · obtain rfl : i = k := by omega
      rw [getD_right lw, getD_right lt]
      have hm := List.getElem_mem (l := ns) (n := i) (by omega)
      rcases node_kinds hc hn with h | h | ⟨h, l, hl1, hl2⟩ | ⟨h, l, r, hl1, hr1, hl2, hr2⟩
      · rw [stepW_true h]
        have : stepT s vs (evalT s vs (ns.take i)) ns[i] = 1 := by unfold stepT; rw [if_pos h]
        rw [this]; decide
      · rw [stepW_leaf h]
        have : stepT s vs (evalT s vs (ns.take i)) ns[i] = leafT ns[i] (vs.getD (s.cols.findIdx (named (ns[i]).col)) Val.zero) := by unfold stepT; rw [if_neg (by omega), if_pos h]
        rw [this]
        exact hl _ hm h
      · obtain ⟨x, hx, hxd, hx8⟩ := evalW_get h8 (ns := ns) (k := i) (l := l) (by omega) hl2
        rw [stepW_not h hl1 hxd]
        have ht : stepT s vs (evalT s vs (ns.take i)) ns[i] = joinT 3 ((evalT s vs (ns.take i)).getD l 0) ((evalT s vs (ns.take i)).getD l 0) := by
          unfold stepT
          rw [if_neg (by omega), if_neg (by omega), if_pos h, hl1, Int.toNat_natCast]
        have q := ih l hl2
        rw [hxd] at q
        have hy : (evalT s vs (ns.take i))[l]? = some ((evalT s vs (ns.take i))[l]'(by omega)) := List.getElem?_eq_getElem (by omega)
        have htr := evalT_tr s vs (ns.take i) _ (List.mem_of_getElem? hy)
        have hyd : (evalT s vs (ns.take i)).getD l 0 = (evalT s vs (ns.take i))[l]'(by omega) := by rw [List.getD_eq_getElem?_getD, hy]; rfl
        obtain ⟨t1, t2⟩ := tr_nat htr
        rw [ht]
        rw [hyd] at q ⊢
        rw [t1]
        exact join3_has x hx8 _ t2 q
      · obtain ⟨x, hx, hxd, hx8⟩ := evalW_get h8 (ns := ns) (k := i) (l := l) (by omega) hl2
        obtain ⟨y, hy, hyd, hy8⟩ := evalW_get h8 (ns := ns) (k := i) (l := r) (by omega) hr2
        rw [stepW_two h hl1 hr1 hxd hyd]
        have ht : stepT s vs (evalT s vs (ns.take i)) ns[i] = joinT (ns[i]).kind ((evalT s vs (ns.take i)).getD l 0) ((evalT s vs (ns.take i)).getD r 0) := by
          unfold stepT
          rw [if_neg (by omega), if_neg (by omega), if_neg (by omega), hl1, hr1, Int.toNat_natCast, Int.toNat_natCast]
        have q1 := ih l hl2
        have q2 := ih r hr2
        rw [hxd] at q1
        rw [hyd] at q2
        have hu : (evalT s vs (ns.take i))[l]? = some ((evalT s vs (ns.take i))[l]'(by omega)) := List.getElem?_eq_getElem (by omega)
        have hv : (evalT s vs (ns.take i))[r]? = some ((evalT s vs (ns.take i))[r]'(by omega)) := List.getElem?_eq_getElem (by omega)
        have hud : (evalT s vs (ns.take i)).getD l 0 = (evalT s vs (ns.take i))[l]'(by omega) := by rw [List.getD_eq_getElem?_getD, hu]; rfl
        have hvd : (evalT s vs (ns.take i)).getD r 0 = (evalT s vs (ns.take i))[r]'(by omega) := by rw [List.getD_eq_getElem?_getD, hv]; rfl
        obtain ⟨t1, t2⟩ := tr_nat (evalT_tr s vs (ns.take i) _ (List.mem_of_getElem? hu))
        obtain ⟨u1, u2⟩ := tr_nat (evalT_tr s vs (ns.take i) _ (List.mem_of_getElem? hv))
        rw [ht]
        rw [hud] at q1 ⊢
        rw [hvd] at q2 ⊢
        rw [t1, u1]
        rcases h with h | h
        · rw [h]; exact join4_has x hx8 y hy8 _ t2 _ u2 q1 q2
        · rw [h]; exact join5_has x hx8 y hy8 _ t2 _ u2 q1 q2
theorem walk_yes {ns : List Nod} {s : Sch} {vs : List Val} {leaf : Nod → Nat} (hc : checkE ns s = 0) (h8 : ∀ n, leaf n < 8)
    (hl : ∀ n ∈ ns, (n.kind = 1 ∨ n.kind = 2) → (leaf n).testBit (leafT n (vs.getD (s.cols.findIdx (named n.col)) Val.zero)).toNat = true) (ht : lastT (evalT s vs ns) = 1) : walkB leaf ns = true := by
  unfold walkB
  rcases Nat.eq_zero_or_pos ns.length with e | e
  · obtain rfl := List.eq_nil_of_length_eq_zero e
    exact (by decide : (2 : Nat).testBit 1 = true)
  · obtain ⟨k, hk⟩ : ∃ k, ns.length = k + 1 := ⟨ns.length - 1, by omega⟩
    have q := walk_holds hc h8 hl ns.length (Nat.le_refl _) k (by omega)
    rw [List.take_length] at q
    have h1 := evalT_last (s := s) (vs := vs) hk
    rw [h1, ht] at q
    have h2 : (evalW leaf ns).getD k 0 = lastW (evalW leaf ns) := by
      have hlw := evalW_len leaf ns
      rw [lastW, List.getLastD_eq_getLast?, List.getLast?_eq_getElem?, hlw, hk]
      simp only [Nat.add_sub_cancel]
      rw [List.getD_eq_getElem?_getD, List.getElem?_eq_getElem (by omega)]
      rfl
    rw [h2] at q
    exact q

/-! ### Between the least and the greatest -/
theorem stand_some {c : Int} {a b v x : Val} (h0 : 0 ≤ c) (h5 : c ≤ 5) (ha : lessV v a = false) (hb : lessV b v = false) (h : standB c v x = true) : someB c a b x = true := by
  have T1 : lessV x v = false → lessV x a = false := fun h => lessV_tr ha h
  have T2 : lessV v x = false → lessV b x = false := fun h => lessV_tr h hb
  have T3 : lessV v x = true → lessV a x = true := fun h => by
    cases e : lessV a x with
    | true => rfl
    | false => rw [lessV_tr e ha] at h; cases h
  have T4 : lessV x v = true → lessV x b = true := fun h => by
    cases e : lessV x b with
    | true => rfl
    | false => rw [lessV_tr hb e] at h; cases h
  have : c = 0 ∨ c = 1 ∨ c = 2 ∨ c = 3 ∨ c = 4 ∨ c = 5 := by omega
  rcases this with rfl | rfl | rfl | rfl | rfl | rfl
  · simp [standB, someB] at h ⊢
    exact ⟨T1 h.2, T2 h.1⟩
  · simp [standB, someB] at h ⊢
    rcases h with h | h
    · exact .inl (.inl (T3 h))
    · exact .inr (.inr (T4 h))
  · simp [standB, someB] at h ⊢
    exact T3 h
  · simp [standB, someB] at h ⊢
    exact T1 h
  · simp [standB, someB] at h ⊢
    exact T4 h
  · simp [standB, someB] at h ⊢
    exact T2 h
theorem stand_opp {c : Int} (v x : Val) (h0 : 0 ≤ c) (h5 : c ≤ 5) : standB (oppC c) v x = !standB c v x := by
  have : c = 0 ∨ c = 1 ∨ c = 2 ∨ c = 3 ∨ c = 4 ∨ c = 5 := by omega
  rcases this with rfl | rfl | rfl | rfl | rfl | rfl <;> simp [standB, oppC]
/-- What a list's statistics hold. -/
structure Inv (vs : List Val) (t : Sta) (col : Int) : Prop where
  col : t.col = col
  pos : 0 ≤ t.nulls
  le : t.nulls ≤ vs.length
  nul : ∀ v ∈ vs, kindV v = 0 → 0 < t.nulls
  non : ∀ v ∈ vs, kindV v ≠ 0 → t.nulls < vs.length ∧ nullB t.mn = false ∧ nullB t.mx = false ∧ lessV v t.mn = false ∧ lessV t.mx v = false
theorem Inv.step {vs : List Val} {t : Sta} {col : Int} (h : Inv vs t col) (x : Val) : Inv (vs ++ [x]) (stepSt t x) col := by
  have hp := h.pos; have hl := h.le
  unfold stepSt
  by_cases hx : kindV x = 0
  · rw [if_pos hx]
    refine ⟨h.col, by simp only []; omega, by simp; omega, fun v hv hk => by simp only []; omega, fun v hv hk => ?_⟩
    rcases List.mem_append.1 hv with hv | hv
    · obtain ⟨h1, h2⟩ := h.non v hv hk
      exact ⟨by simp; omega, h2⟩
    · simp at hv; subst hv; exact absurd hx hk
  · rw [if_neg hx]
    have hnb : nullB (clean x) = false := by unfold nullB; rw [kindV_clean]; simpa using hx
    refine ⟨h.col, hp, by simp; omega, fun v hv hk => ?_, fun v hv hk => ?_⟩
    · rcases List.mem_append.1 hv with hv | hv
      · exact h.nul v hv hk
      · simp at hv; subst hv; exact absurd hk hx
    · have key : ∀ v, kindV v ≠ 0 → (v ∈ vs ∨ v = x) → nullB (minS t.mn (clean x)) = false ∧ nullB (maxS t.mx (clean x)) = false ∧ lessV v (minS t.mn (clean x)) = false ∧ lessV (maxS t.mx (clean x)) v = false := by
        intro v hk hv
        have hxx : lessV x (clean x) = false ∧ lessV (clean x) x = false := by rw [lessV_clean_r, lessV_clean_l, lessV_irr]; exact ⟨rfl, rfl⟩
        have hmin : nullB (minS t.mn (clean x)) = false ∧ lessV v (minS t.mn (clean x)) = false := by
          unfold minS
          by_cases c1 : nullB t.mn = true
          · rw [c1, Bool.true_or, if_pos rfl]
            refine ⟨hnb, ?_⟩
            rcases hv with hv | rfl
            · rw [(h.non v hv hk).2.1] at c1; cases c1
            · exact hxx.1
          · have c1 : nullB t.mn = false := by simpa using c1
            rw [c1, Bool.false_or]
            by_cases c2 : cmpV (clean x) t.mn < 0
            · rw [if_pos (by simpa using c2)]
              refine ⟨hnb, ?_⟩
              have c3 : lessV (clean x) t.mn = true := by
                unfold cmpV at c2
                cases e : lessV (clean x) t.mn with
                | true => rfl
                | false => rw [e] at c2; simp only [Bool.false_eq_true, if_false] at c2; split at c2 <;> omega
              rcases hv with hv | rfl
              · exact lessV_tr (lessV_asymm c3) (h.non v hv hk).2.2.2.1
              · exact hxx.1
            · rw [if_neg (by simpa using c2)]
              refine ⟨c1, ?_⟩
              rcases hv with hv | rfl
              · exact (h.non v hv hk).2.2.2.1
              · cases e : lessV v t.mn with
                | false => rfl
                | true =>
                  have : cmpV (clean v) t.mn = -1 := by unfold cmpV; rw [lessV_clean_l, e]; rfl
                  omega
        have hmax : nullB (maxS t.mx (clean x)) = false ∧ lessV (maxS t.mx (clean x)) v = false := by
          unfold maxS
          by_cases c1 : nullB t.mx = true
          · rw [c1, Bool.true_or, if_pos rfl]
            refine ⟨hnb, ?_⟩
            rcases hv with hv | rfl
            · rw [(h.non v hv hk).2.2.1] at c1; cases c1
            · exact hxx.2
          · have c1 : nullB t.mx = false := by simpa using c1
            rw [c1, Bool.false_or]
            by_cases c2 : 0 < cmpV (clean x) t.mx
            · rw [if_pos (by simpa using c2)]
              refine ⟨hnb, ?_⟩
              have c3 : lessV (clean x) t.mx = false := by
                cases e : lessV (clean x) t.mx with
                | false => rfl
                | true => unfold cmpV at c2; rw [e] at c2; simp at c2
              rcases hv with hv | rfl
              · exact lessV_tr (h.non v hv hk).2.2.2.2 c3
              · exact hxx.2
            · rw [if_neg (by simpa using c2)]
              refine ⟨c1, ?_⟩
              rcases hv with hv | rfl
              · exact (h.non v hv hk).2.2.2.2
              · cases e : lessV t.mx v with
                | false => rfl
                | true =>
                  have : cmpV (clean v) t.mx = 1 := by unfold cmpV; rw [lessV_clean_l, lessV_clean_r, lessV_asymm e, e]; rfl
                  omega
        exact ⟨hmin.1, hmax.1, hmin.2, hmax.2⟩
      have hv' : v ∈ vs ∨ v = x := by
        rcases List.mem_append.1 hv with hv | hv
        · exact .inl hv
        · exact .inr (by simpa using hv)
      exact ⟨by simp; omega, key v hk hv'⟩
theorem inv_stat (col : Int) (vs : List Val) : Inv vs (statR col vs) col := by
  have key : ∀ (vs pre : List Val) (t : Sta), Inv pre t col → Inv (pre ++ vs) (vs.foldl stepSt t) col := by
    intro vs
    induction vs with
    | nil => intro pre t h; simpa using h
    | cons x r ih =>
      intro pre t h
      have := ih (pre ++ [x]) (stepSt t x) (h.step x)
      rw [List.append_assoc] at this
      exact this
  exact key vs [] ⟨col, 0, zeroV, zeroV⟩ ⟨rfl, Int.le_refl _, by simp, fun v hv => by simp at hv, fun v hv => by simp at hv⟩
theorem told_has {n : Nod} {vs : List Val} {v : Val} (id : Int) (h12 : n.kind = 1 ∨ n.kind = 2) (hc : n.kind = 2 ∨ (0 ≤ n.cmp ∧ n.cmp ≤ 5)) (hv : v ∈ vs) : (toldS n (statR id vs) (vs.length : Int)).testBit (leafT n v).toNat = true := by
  have hi := inv_stat id vs
  generalize statR id vs = t at hi
  by_cases h2 : n.kind = 2
  · have hL : leafT n v = truthI (kindV v == 0) := by unfold leafT; rw [if_neg (by omega), if_pos h2]
    rw [hL, toldS, if_pos h2, orS_bit]
    by_cases hk : kindV v = 0
    · have := hi.nul v hv hk
      rw [hk, decide_eq_true this]
      show ((bitS true 2).testBit 1 || _) = true
      have : (bitS true 2).testBit 1 = true := by decide
      rw [this]; rfl
    · have := (hi.non v hv hk).1
      have e : (kindV v == 0) = false := by simpa using hk
      rw [e, decide_eq_true this]
      show (_ || (bitS true 1).testBit 0) = true
      have : (bitS true 1).testBit 0 = true := by decide
      rw [this, Bool.or_true]
  · have h1 : n.kind = 1 := by omega
    have hcc := hc.resolve_left h2
    have hL : leafT n v = if kindV v = 0 then 2 else truthI (standB n.cmp v n.v) := by unfold leafT; rw [if_neg (by omega), if_neg h2]
    rw [hL, toldS, if_neg h2]
    by_cases hk : kindV v = 0
    · rw [if_pos hk]
      have hn := hi.nul v hv hk
      have hb : (bitS (decide (0 < t.nulls)) 4).testBit (2 : Int).toNat = true := by rw [decide_eq_true hn]; decide
      split
      · rw [orS_bit, orS_bit, hb]; rfl
      · exact hb
    · rw [if_neg hk]
      obtain ⟨h3, h4, h5, h6, h7⟩ := hi.non v hv hk
      rw [if_pos h3, orS_bit, orS_bit]
      have ha : lessV v (clean t.mn) = false := by rw [lessV_clean_r]; exact h6
      have hb : lessV (clean t.mx) v = false := by rw [lessV_clean_l]; exact h7
      cases hs : standB n.cmp v n.v with
      | true =>
        rw [stand_some hcc.1 hcc.2 ha hb hs]
        have : (bitS true 2).testBit (truthI true).toNat = true := by decide
        rw [this]; simp
      | false =>
        have ho : standB (oppC n.cmp) v n.v = true := by rw [stand_opp v n.v hcc.1 hcc.2, hs]; rfl
        rw [stand_some (oppC_bd n.cmp).1 (oppC_bd n.cmp).2 ha hb ho]
        have : (bitS true 1).testBit (truthI false).toNat = true := by decide
        rw [this]; simp

/-! ### A file -/
def colV (vss : List (List Val)) (i : Nat) : List Val := vss.map fun vs => vs.getD i Val.zero
def statsTo (s : Sch) (vss : List (List Val)) (k : Nat) : List Sta := (List.range k).map fun i => statR (s.cols.getD i ⟨0, .empty, 0⟩).id (colV vss i)
theorem statsTo_len (s : Sch) (vss : List (List Val)) (k : Nat) : (statsTo s vss k).length = k := by simp [statsTo]
theorem statsTo_succ {s : Sch} {vss : List (List Val)} {k : Nat} {c : Col} (h : s.cols[k]? = some c) : statsTo s vss (k + 1) = statsTo s vss k ++ [statR c.id (colV vss k)] := by
  simp [statsTo, List.range_succ, List.getD_eq_getElem?_getD, h]
theorem statsTo_get {s : Sch} {vss : List (List Val)} {k i : Nat} {c : Col} (hi : i < k) (h : s.cols[i]? = some c) : (statsTo s vss k)[i]? = some (statR c.id (colV vss i)) := by
  simp [statsTo, List.getElem?_map, List.getElem?_range hi, List.getD_eq_getElem?_getD, h]
theorem col_len (vss : List (List Val)) (i : Nat) : (colV vss i).length = vss.length := by simp [colV]
theorem file_find {s : Sch} {vss : List (List Val)} {j : Nat} {c : Col} (hm : mayB s = true) (hc : s.cols[j]? = some c) : idx (statOf c.id) (statsTo s vss s.cols.length) = (j : Int) := by
  have hlen := statsTo_len s vss s.cols.length
  have hj := (List.getElem?_eq_some_iff.1 hc).1
  have hcj := (List.getElem?_eq_some_iff.1 hc).2
  have hp := List.pairwise_iff_getElem.1 (mayB_iff.1 hm).2.2
  have hat : ∀ i (h : i < (statsTo s vss s.cols.length).length) (h2 : i < s.cols.length), ((statsTo s vss s.cols.length)[i]).col = (s.cols[i]).id := by
    intro i h h2
    have e := statsTo_get (vss := vss) h2 (List.getElem?_eq_getElem h2)
    rw [List.getElem?_eq_getElem h] at e
    rw [Option.some.inj e]
    exact (inv_stat _ _).col
  have h1 : (statsTo s vss s.cols.length).findIdx (statOf c.id) = j := by
    refine fi_hit _ _ j (by omega) (fi_ge _ _ j (by omega) fun i hi hij => ?_) ?_
    · have hne := (clash_iff.1 (hp i j (by omega) hj hij)).1
      have := hat i hi (by omega)
      simp only [statOf, this, beq_eq_false_iff_ne, ne_eq]
      rw [hcj] at hne
      exact hne
    · simp only [statOf, hat j (by omega) hj, hcj, beq_self_eq_true]
  rw [idx, h1, if_pos (by omega)]
theorem id_find {s : Sch} {j : Nat} {c : Col} (hm : mayB s = true) (hc : s.cols[j]? = some c) : s.cols.findIdx (colId c.id) = j := by
  have hj := (List.getElem?_eq_some_iff.1 hc).1
  have hcj := (List.getElem?_eq_some_iff.1 hc).2
  have hp := List.pairwise_iff_getElem.1 (mayB_iff.1 hm).2.2
  refine fi_hit _ _ j (by omega) (fi_ge _ _ j (by omega) fun i hi hij => ?_) ?_
  · have hne := (clash_iff.1 (hp i j (by omega) hj hij)).1
    simp only [colId, beq_eq_false_iff_ne, ne_eq]
    rw [hcj] at hne
    exact hne
  · simp only [colId, hcj, beq_self_eq_true]
theorem nod_id {s : Sch} {n : Nod} {j : Nat} {c : Col} (h : s.cols.findIdx (named n.col) = j) (hc : s.cols[j]? = some c) : nodId s n = c.id := by
  rw [nodId, h, List.getD_eq_getElem?_getD, hc]; rfl
/-- Statistics tell of a row that is taken. -/
theorem file_stats {ns : List Nod} {s : Sch} {vss : List (List Val)} (hc : checkE ns s = 0) (hl : vss.length ≤ 4096) :
    (statsR ns s (statsTo s vss s.cols.length) (vss.length : Int)).2 = 0 ∧ (∀ vs ∈ vss, lastT (evalT s vs ns) = 1 → (statsR ns s (statsTo s vss s.cols.length) (vss.length : Int)).1 = true) := by
  have hm := (checkE_inv hc).2.1
  have hout : (statsTo s vss s.cols.length).any (outOf (vss.length : Int)) = false := by
    rw [List.any_eq_false]
    intro t ht
    simp only [statsTo] at ht
    obtain ⟨i, _, rfl⟩ := List.mem_map.1 ht
    have hi := inv_stat (s.cols.getD i ⟨0, .empty, 0⟩).id (colV vss i)
    have h1 := hi.pos; have h2 := hi.le
    rw [col_len] at h2
    simp only [outOf, Bool.or_eq_true, decide_eq_true_eq, not_or]
    omega
  have hcond : ¬ ((vss.length : Int) < 0 ∨ 4096 < (vss.length : Int) ∨ (statsTo s vss s.cols.length).any (outOf (vss.length : Int)) = true) := by
    rw [hout]; simp; omega
  unfold statsR
  rw [if_neg (by rw [hc]; simp), if_neg hcond]
  by_cases h0 : (vss.length : Int) = 0
  · rw [if_pos h0]
    refine ⟨rfl, fun vs hv => ?_⟩
    have : vss = [] := List.eq_nil_of_length_eq_zero (by omega)
    rw [this] at hv; simp at hv
  · rw [if_neg h0]
    refine ⟨rfl, fun vs hv ht => ?_⟩
    refine walk_yes (vs := vs) hc (leafStat_lt _ _ _) (fun n hn h12 => ?_) ht
    obtain ⟨k, hk⟩ := List.getElem?_of_mem hn
    obtain ⟨j, _, hj, hjf⟩ := node_col hc hk h12
    have hcj : s.cols[j]? = some s.cols[j] := List.getElem?_eq_getElem hj
    have hid := nod_id hjf hcj
    rw [leafStat_hit (j := j) (by rw [hid]; exact file_find hm hcj) (statsTo_get hj hcj), hjf]
    have h_ := told_has (n := n) (vs := colV vss j) (v := vs.getD j Val.zero) (s.cols[j]).id h12 (node_cmp hc hn h12) (List.mem_map.2 ⟨vs, hv, rfl⟩)
    rw [col_len] at h_
    exact h_
theorem leafT_clean (n : Nod) (v : Val) : leafT n (clean v) = leafT n v := by
  unfold leafT
  rw [kindV_clean, standB_clean]
theorem leaf_low (n : Nod) (v : Val) : (7 : Nat).testBit (leafT n v).toNat = true := by
  obtain ⟨h1, h2⟩ := tr_nat (leafT_tr n v)
  rcases lt3 h2 with h | h | h <;> rw [h] <;> decide
/-- Its part tells of a row that is taken. -/
theorem file_part {ns : List Nod} {s : Sch} {id : Int} {fs : List Fld} {vs : List Val} (hc : checkE ns s = 0) (hs : specB id fs s = true) (ht : lastT (evalT s vs ns) = 1) : partsR ns s id fs (partT s fs vs) = (true, 0) := by
  have hm := (checkE_inv hc).2.1
  unfold partsR
  rw [if_neg (by rw [hc]; simp), if_pos ⟨hs, partT_len s fs vs⟩]
  refine Prod.ext ?_ rfl
  refine walk_yes (vs := vs) hc (leafPart_lt _ _ _) (fun n hn h12 => ?_) ht
  obtain ⟨k, hk⟩ := List.getElem?_of_mem hn
  obtain ⟨j, _, hj, hjf⟩ := node_col hc hk h12
  have hcj : s.cols[j]? = some s.cols[j] := List.getElem?_eq_getElem hj
  have hid := nod_id hjf hcj
  rcases idx_cases (plainOf (nodId s n)) fs with hi | ⟨q, hi, hq⟩
  · rw [leafPart_miss hi]
    split
    · rename_i h2
      have hL : leafT n (vs.getD (s.cols.findIdx (named n.col)) Val.zero) = truthI (kindV (vs.getD (s.cols.findIdx (named n.col)) Val.zero) == 0) := by unfold leafT; rw [if_neg (by omega), if_pos h2]
      rw [hL]
      cases (kindV (vs.getD (s.cols.findIdx (named n.col)) Val.zero) == 0) <;> decide
    · exact leaf_low _ _
  · have hfq : fs[q]? = some fs[q] := List.getElem?_eq_getElem hq
    obtain ⟨e, hlt⟩ := idx_yes (p := plainOf (nodId s n)) (l := fs) (by omega)
    have hqi : fs.findIdx (plainOf (nodId s n)) = q := by omega
    have hpl : plainOf (nodId s n) fs[q] = true := by
      have := List.findIdx_getElem (p := plainOf (nodId s n)) (xs := fs) (w := hlt)
      simpa only [hqi] using this
    simp only [plainOf, Bool.and_eq_true, beq_iff_eq] at hpl
    have hpar := spec_param hs hfq
    have hpart : (partT s fs vs)[q]? = some (clean (vs.getD j Val.zero)) := by
      simp only [partT, List.getElem?_map, hfq, Option.map_some]
      rw [hpl.1, hid, id_find hm hcj, applyR, if_neg (by rw [hpar]; simp), if_pos (.inr hpl.2)]
    rw [leafPart_hit hi hpart, leafT_clean, hjf]
    obtain ⟨h1, h2⟩ := tr_nat (leafT_tr n (vs.getD j Val.zero))
    rcases lt3 h2 with h | h | h <;> rw [h] <;> decide
end Go.Proofs.YtafgfehjdbomfaaDoor
namespace Go.Proofs.YtafgfehjdbomfaaDoor
open Go.RowKit

theorem eiStaN : EI Tryd.prog 66 68 10 96 :=
  ⟨Tryd.underlying66, info_parts (show (Tryd.prog.info? 68).map (fun i => (i.zero, i.size, i.bytes)) = some (some (.agg #[.int .i64 0, .int .i64 0, .int .i64 0, .int .i64 0, .bool false, .string .empty, .int .i64 0, .int .i64 0, .bool false, .string .empty]), 10, 96) by kernel_rfl) |>.elim fun i h => ⟨i, _, h.1, h.2.1, h.2.2.1, h.2.2.2, rfl⟩, by decide, by decide⟩
theorem selR_okN {ns : List Nod} {s : Sch} {vss : List (List Val)} (h : (selR ns s vss).2 = 0) : checkE ns s = 0 ∧ (∀ vs ∈ vss, rowB s vs = true) ∧ (selR ns s vss).1 = yesTo ns s vss vss.length := by
  unfold selR at h ⊢
  split at h
  · rename_i hc; exact absurd h hc
  · rename_i hc
    split at h
    · rename_i hr
      rw [if_neg hc, if_pos hr]
      refine ⟨by simpa using hc, fun vs hv => ?_, rfl⟩
      unfold rowsOk at hr
      rw [List.take_length] at hr
      exact List.all_eq_true.1 hr vs hv
    · cases h
theorem yes_memN {ns : List Nod} {s : Sch} {vss : List (List Val)} {x : Int} : ∀ {k : Nat}, x ∈ yesTo ns s vss k → ∃ i : Nat, i < k ∧ x = (i : Int) ∧ (truthR ns s (vss.getD i [])).1 = 1
  | 0, h => by simp [yesTo] at h
  | k + 1, h => by
    rw [yesTo] at h
    split at h
    · rename_i hy
      rcases List.mem_append.1 h with h | h
      · obtain ⟨i, h1, h2⟩ := yes_memN h
        exact ⟨i, by omega, h2⟩
      · simp at h; exact ⟨k, by omega, h, hy⟩
    · obtain ⟨i, h1, h2⟩ := yes_memN h
      exact ⟨i, by omega, h2⟩
theorem colV_take {vss : List (List Val)} {i q : Nat} {vs : List Val} {v : Val} (h : vss[q]? = some vs) (hv : vs[i]? = some v) : (colV vss i).take (q + 1) = (colV vss i).take q ++ [v] := by
  have : (colV vss i)[q]? = some v := by simp [colV, h, List.getD_eq_getElem?_getD, hv]
  rw [List.take_add_one, this]
  rfl

set_option maxRecDepth 100000 in
set_option maxHeartbeats 16000000 in
theorem psound_any (ps : List Nod) (Ap : Option Addr) (cp : Nat) (s : Sch) (As : Option Addr) (cs : Nat) (rs : List RowA) (Ar : Option Addr) (cr : Nat) (id : Int) (fs : List Fld) (Af : Option Addr) (cf : Nat) (w : World)
    (hp : PrIn w ps Ap cp) (hs : SchIn w s As cs) (hr : RowsIn w rs Ar cr) (hfine : ∀ r ∈ rs, ∀ v ∈ r.vs, FineV v) (hf : FsIn w fs Af cf) :
    Calls Tryd.prog 8 #[.agg #[.slice Ap ps.length cp], .agg #[.int .i64 s.id, .slice As s.cols.length cs, .int .i64 s.next], .slice Ar rs.length cr, .agg #[.int .i64 id, .slice Af fs.length cf]] w fun e w' => e = .returned (.bool true) ∧ Step w w' := by
  have hrm := hr.hcapm
  obtain ⟨W, hW⟩ : ∃ W, W = ((w.alloc (.cells #[.slice Ap ps.length cp] 24)).alloc (.cells #[.int .i64 s.id, .slice As s.cols.length cs, .int .i64 s.next] 27)).alloc (.cells #[.int .i64 id, .slice Af fs.length cf] 65) := ⟨_, rfl⟩
  have SW : Step w W := by rw [hW]; exact Step.of
  have HPB : Hid (Blk W w.heap.size 24 [.slice Ap ps.length cp]) := by rw [hW]; exact ((Blk.new w [.slice Ap ps.length cp] 24).alloc _).alloc _
  have HSB : Hid (Blk W (w.heap.size + 1) 27 [.int .i64 s.id, .slice As s.cols.length cs, .int .i64 s.next]) := by rw [hW]; exact (Blk.new_at (by simp) [.int .i64 s.id, .slice As s.cols.length cs, .int .i64 s.next] 27).alloc _
  have HFB : Hid (Blk W (w.heap.size + 1 + 1) 65 [.int .i64 id, .slice Af fs.length cf]) := by rw [hW]; exact Blk.new_at (by simp) [.int .i64 id, .slice Af fs.length cf] 65
  have HW := hide hW
  have hzW := SW.size
  clear hW
  obtain ⟨vss, hvss⟩ : ∃ vss, rs.map RowA.vs = vss := ⟨_, rfl⟩
  have a1 := fun w' [Fut w w'] => rselRows_any ps Ap cp s As cs rs Ar cr w' hp hs hr
  rw [hvss] at a1
  have hok1 := selR_okN (ns := ps) (s := s) (vss := vss)
  obtain ⟨T1, hT1⟩ : ∃ T, selR ps s vss = T := ⟨_, rfl⟩
  rw [hT1] at a1 hok1
  clear hT1
  obtain ⟨l1, e1⟩ := T1
  simp only at a1 hok1
  unfold Sch.val at a1
  have A1 := hide a1; have HOK1 := hide hok1; have HVSS := hide hvss
  have HFINE := hide hfine
  clear a1 hok1 hvss hfine
  go_enter Tryd.func8, Tryd.ntmps8
  go_upto_region 4 with (first
    | (go_at_call 28; refine (awake18_any _).mono ?_; rintro e w1 ⟨rfl, hs1⟩; rw [← HW.out] at hs1; have h1_ := HPB.out.fut (w' := w1); have p0 := At.z1 h1_.at0; have lp := h1_.lt; have h3_ := HSB.out.fut (w' := w1); obtain ⟨s0, s1, s2⟩ := At.z3 h3_.at0; have ls := h3_.lt; have h4_ := HFB.out.fut (w' := w1); obtain ⟨f0, f1⟩ := At.z2 h4_.at0; have lf := h4_.lt; clear h1_ h3_ h4_)
    | (go_at_call 12; (with_reducible refine (A1.out _).mono ?_); rintro e w2 ⟨X2, c2, rfl, ho2, hs2⟩; have HO2 := hide ho2; clear ho2; clear p0 lp s0 s1 s2 ls f0 f1 lf))
  clear A1
  have HS2 := hide (HO2.out.sl (int_fit l1).len)
  clear HO2
  have hz2 := (fut W w2).size
  by_cases he1 : e1 = 0
  · subst he1
    by_cases hbig : 4096 < rs.length
    · have hbi : (4096 : Int) < (rs.length : Int) := by omega
      go_wp2_with (go_at_call 18; refine (numv_any _ _).mono ?_; rintro e w' ⟨rfl, rfl⟩)
      go_ret
      exact ⟨rfl, Step.of⟩
    · have hbi : ¬ (4096 : Int) < (rs.length : Int) := by omega
      obtain ⟨hc1, hr1, hy1⟩ := HOK1.out (by first | trivial | rfl)
      have hvn : vss.length = rs.length := by rw [← HVSS.out, List.length_map]
      have hl1n : l1.length ≤ rs.length := by
        have := yesTo_len ps s vss vss.length
        rw [← hy1, hvn] at this
        exact this
      have hscl : s.cols.length ≤ 12 := (mayB_head (checkE_inv hc1).2.1).2.2.2.1
      obtain ⟨hst1, hst2⟩ := file_stats (ns := ps) (s := s) (vss := vss) hc1 (by omega)
      rw [hvn] at hst1 hst2
      have hyes : ∀ x ∈ l1, ∃ i : Nat, i < rs.length ∧ x = (i : Int) ∧ ∀ r, rs[i]? = some r → lastT (evalT s r.vs ps) = 1 := fun x hx => by
        rw [hy1] at hx
        obtain ⟨i, h1, h2, h3⟩ := yes_memN hx
        rw [hvn] at h1
        refine ⟨i, h1, h2, fun r hri => ?_⟩
        have hvi : vss[i]? = some r.vs := by rw [← HVSS.out]; simp [hri]
        rw [List.getD_eq_getElem?_getD, hvi] at h3
        have hrow := hr1 r.vs (List.mem_of_getElem? hvi)
        rw [Option.getD_some, truthR, if_neg (by rw [hc1]; simp), if_pos hrow] at h3
        exact h3
      have hrow : ∀ r ∈ rs, rowB s r.vs = true ∧ r.vs.length = s.cols.length := fun r hr_ => by
        have h1 := hr1 r.vs (by rw [← HVSS.out]; exact List.mem_map.2 ⟨r, hr_, rfl⟩)
        exact ⟨h1, rowB_width h1⟩
      have HYES := hide hyes; have HROW := hide hrow; have HC1 := hide hc1; have HST1 := hide hst1; have HST2 := hide hst2; have HVN := hide hvn
      clear hyes hrow hc1 hst1 hst2 hr1 hy1 hvn
      go_wp2_with (go_at_call 18; refine (numv_any _ _).mono ?_; rintro e w' ⟨rfl, rfl⟩)
      go_loopw [11, 12, 13, 14] (fun st i _ _ wr => ∃ (k : Nat) (A' : Option Addr) (c' : Nat), k ≤ s.cols.length ∧ i = .int .i64 k ∧ st = .slice A' k c' ∧ Own wr w2.heap.size 68 10 (.slice A' k c') ((statsTo s vss k).map Sta.cells) ∧ Step w2 wr) (fun _ i _ _ _ => s.cols.length - (intOf i).toNat)
      case atStart => exact ⟨0, none, 0, Nat.zero_le _, rfl, rfl, Own.nil_ _ _ _ _, Step.of⟩
      case round =>
        obtain ⟨k, A', c', hk, rfl, rfl, hown, hst⟩ := hrel
        have HO := hide hown; clear hown
        obtain ⟨wi, rfl⟩ : ∃ x : World, x = wr := ⟨_, rfl⟩
        have hzi := hst.size
        have h3_ := HSB.out.fut (w' := wi); obtain ⟨s0, s1, s2⟩ := At.z3 h3_.at0; have ls := h3_.lt; clear h3_
        by_cases hlt : k < s.cols.length
        · have hkl : (k : Int) < (s.cols.length : Int) := by omega
          have hk0 : (0 : Int) ≤ (k : Int) := by omega
          go_wp2_with fail
          clear s0 s1 s2 ls
          go_loopw [13, 14] (fun vv kk wr => ∃ (q : Nat) (A2 : Option Addr) (d2 : Nat), q ≤ rs.length ∧ kk = .int .i64 q ∧ vv = .slice A2 q d2 ∧ Own wr wi.heap.size 57 4 (.slice A2 q d2) (((colV vss k).take q).map Val.cells) ∧ Step wi wr) (fun _ kk _ => rs.length - (intOf kk).toNat)
          case atStart => exact ⟨0, none, 0, Nat.zero_le _, rfl, rfl, Own.nil_ _ _ _ _, Step.of⟩
          case round =>
            obtain ⟨q, A2, d2, hq, rfl, rfl, hown2, hst2⟩ := hrel
            have HQ := hide hown2; clear hown2
            obtain ⟨wk, rfl⟩ : ∃ x : World, x = wr := ⟨_, rfl⟩
            have hzk := hst2.size
            by_cases hqn : q < rs.length
            · have hql : (q : Int) < (rs.length : Int) := by omega
              have hq0 : (0 : Int) ≤ (q : Int) := by omega
              obtain ⟨b, off, rfl, hb, r, hrk, hri, r0⟩ := hr.row (w' := wk) inferInstance hqn
              have hrw := (HROW.out r (List.mem_of_getElem? hrk)).2
              obtain ⟨bv, ov, hA, hbv, hcv⟩ := hri.at_.elem (w' := wk) inferInstance (k := k) (by rw [List.length_map]; omega)
              obtain ⟨v, hvk⟩ : ∃ v, r.vs[k]? = some v := ⟨_, List.getElem?_eq_getElem (by omega)⟩
              obtain ⟨v0, v1, v2, v3⟩ := At.l4 (hcv k v.cells (by simp [hvk]))
              have HTK := hide (colV_take (vss := vss) (q := q) (by rw [← HVSS.out]; simp [hrk]) hvk)
              have HLQ : Hid ((((colV vss k).take q).map Val.cells).length = q) := by show _ = _; rw [List.length_map, List.length_take, col_len, HVN.out]; omega
              have lb : b < wk.heap.size := by omega
              have lbv : bv < wk.heap.size := by omega
              rw [hA, hrw] at r0
              clear hrk hcv hvk hA
              have HOW := hide (HQ.out.fut (w' := wk.alloc (.cells #[.int .i64 v.kind, .int .i64 v.i, .bool v.b, .string v.s] 57)))
              have HNew := hide (SlAt.one wk 4 [.int .i64 v.kind, .int .i64 v.i, .bool v.b, .string v.s] 57)
              go_wp2_with (at_builtin; go_loud (refine wpList_append_sl rfl (.tmp 51) (.tmp 60) 52 rfl eiV4 (base := wi.heap.size) (xs := ((colV vss k).take q).map Val.cells) rfl HOW.out (vals_fit _) (ys := [[.int .i64 v.kind, .int .i64 v.i, .bool v.b, .string v.s]]) rfl (by simp) HNew.out (vals_fit [v]) (by rw [HLQ.out]; show (q + 1) * 40 ≤ _; omega) (fut wi (wk.alloc (.cells #[.int .i64 v.kind, .int .i64 v.i, .bool v.b, .string v.s] 57))).size (N := q + 1) (by rw [HLQ.out]; rfl) ?_; intro A7 c7 w7 hq1 hq2 hown7 hgr7 hbel7; have H7 := hide hown7; have hs7 : Step wi w7 := ⟨(fut wi (wk.alloc (.cells #[.int .i64 v.kind, .int .i64 v.i, .bool v.b, .string v.s] 57))).trans hbel7⟩; clear hown7 hgr7 hbel7))
              go_roundw
              case rel => exact ⟨q + 1, A7, c7, by omega, by go_num, rfl, by rw [HTK.out, List.map_append]; exact H7.out, hs7⟩
              case measure => simp [intOf]; omega
            · obtain rfl : q = rs.length := by omega
              have hcolV : (colV vss k).take rs.length = colV vss k := by rw [← HVN.out, ← col_len vss k, List.take_length]
              have HSV : Hid (SlAt wk wk.heap.size 4 A2 ((colV vss k).map Val.cells)) := by
                have h_ := HQ.out.sl (vals_fit _).len
                rw [hcolV] at h_
                exact h_
              obtain ⟨cc, hck⟩ : ∃ cc, s.cols[k]? = some cc := ⟨_, List.getElem?_eq_getElem hlt⟩
              obtain ⟨bc, oc, hAs, hbc, hcc⟩ := hs.at_.elem (w' := wk) inferInstance (k := k) (by simpa using hlt)
              obtain ⟨c0, c1, c2⟩ := At.l3 (hcc k cc.cells (by simp [hck]))
              have lbc : bc < wk.heap.size := by omega
              have h3_ := HSB.out.fut (w' := wk); obtain ⟨s0, s1, s2⟩ := At.z3 h3_.at0; have ls := h3_.lt; clear h3_
              rw [hAs] at s1
              have HTS := hide (statsTo_succ (vss := vss) hck)
              have HSZ : Hid (∀ v ∈ colV vss k, v.s.size ≤ 9223372036854775807) := fun v hv => by
                obtain ⟨vs', hv', rfl⟩ := List.mem_map.1 hv
                rw [← HVSS.out] at hv'
                obtain ⟨r, hr_, rfl⟩ := List.mem_map.1 hv'
                rw [List.getD_eq_getElem?_getD]
                cases e : r.vs[k]? with
                | none => exact (by decide : (0 : Nat) ≤ 9223372036854775807)
                | some x => exact (hr.rows r hr_).strs x (List.mem_of_getElem? e)
              have rs_ := fun w' [Fut wk w'] => rstat_any cc.id (colV vss k) A2 d2 w' HSV.out (by rw [col_len, HVN.out]; omega) HSZ.out
              rw [col_len, HVN.out] at rs_
              obtain ⟨T, hT⟩ : ∃ T, statR cc.id (colV vss k) = T := ⟨_, rfl⟩
              rw [hT] at rs_ HTS
              have RS := hide rs_
              have HLK : Hid (((statsTo s vss k).map Sta.cells).length = k) := by show _ = _; rw [List.length_map, statsTo_len]
              have HO1 : Hid (Own wk w2.heap.size 68 10 (.slice A' k c') ((statsTo s vss k).map Sta.cells)) := HO.out.fut
              clear hck hcc hT rs_ hcolV HQ hAs
              go_wp2_with (first
                | (go_at_call 29; (with_reducible refine (RS.out _).mono ?_); rintro e w5 ⟨rfl, hs5⟩; have HOW := hide (HO1.out.fut (w' := w5.alloc (.cells #[.int .i64 T.col, .int .i64 T.nulls, .int .i64 T.mn.kind, .int .i64 T.mn.i, .bool T.mn.b, .string T.mn.s, .int .i64 T.mx.kind, .int .i64 T.mx.i, .bool T.mx.b, .string T.mx.s] 68))); have HNew := hide (SlAt.one w5 10 [.int .i64 T.col, .int .i64 T.nulls, .int .i64 T.mn.kind, .int .i64 T.mn.i, .bool T.mn.b, .string T.mn.s, .int .i64 T.mx.kind, .int .i64 T.mx.i, .bool T.mx.b, .string T.mx.s] 68))
                | (at_builtin; go_loud (refine wpList_append_sl rfl (.tmp 62) (.tmp 71) 66 rfl eiStaN (base := w2.heap.size) (xs := (statsTo s vss k).map Sta.cells) rfl HOW.out (stas_fit _) (ys := [[.int .i64 T.col, .int .i64 T.nulls, .int .i64 T.mn.kind, .int .i64 T.mn.i, .bool T.mn.b, .string T.mn.s, .int .i64 T.mx.kind, .int .i64 T.mx.i, .bool T.mx.b, .string T.mx.s]]) rfl (by simp) HNew.out (stas_fit [T]) (by rw [HLK.out]; show (k + 1) * 96 ≤ _; omega) (fut w2 (w5.alloc (.cells #[.int .i64 T.col, .int .i64 T.nulls, .int .i64 T.mn.kind, .int .i64 T.mn.i, .bool T.mn.b, .string T.mn.s, .int .i64 T.mx.kind, .int .i64 T.mx.i, .bool T.mx.b, .string T.mx.s] 68))).size (N := k + 1) (by rw [HLK.out]; rfl) ?_; intro A9 c9 w9 hq1 hq2 hown9 hgr9 hbel9; have H9 := hide hown9; have hs9 : Step w2 w9 := ⟨(fut w2 (w5.alloc (.cells #[.int .i64 T.col, .int .i64 T.nulls, .int .i64 T.mn.kind, .int .i64 T.mn.i, .bool T.mn.b, .string T.mn.s, .int .i64 T.mx.kind, .int .i64 T.mx.i, .bool T.mx.b, .string T.mx.s] 68))).trans hbel9⟩; clear hown9 hgr9 hbel9)))
              go_roundw
              case rel => exact ⟨k + 1, A9, c9, by omega, by go_num, rfl, by rw [HTS.out, List.map_append]; exact H9.out, hs9⟩
              case measure => simp [intOf]; omega
        · obtain rfl : k = s.cols.length := by omega
          have HSS := hide (HO.out.sl (stas_fit _).len)
          have b1 := fun w' [Fut w w'] [Fut wi w'] => pstats_any ps Ap cp s As cs (statsTo s vss s.cols.length) A' c' (rs.length : Int) w' hp hs HSS.out (by rw [statsTo_len]; omega)
          rw [statsTo_len] at b1
          obtain ⟨T2, hT2⟩ : ∃ T, statsR ps s (statsTo s vss s.cols.length) (rs.length : Int) = T := ⟨_, rfl⟩
          rw [hT2] at b1
          have hst1 := HST1.out; have hst2 := HST2.out
          rw [hT2] at hst1 hst2
          clear hT2
          obtain ⟨tb, te⟩ := T2
          simp only at b1 hst1 hst2
          subst hst1
          unfold Sch.val at b1
          have B1 := hide b1
          clear b1
          have h1_ := HPB.out.fut (w' := wi); have p0 := At.z1 h1_.at0; have lp := h1_.lt; clear h1_
          have HGT := hide hst2
          clear hst2
          by_cases hl0 : l1.length = 0
          · have hl0i : (l1.length : Int) = 0 := by omega
            have hl0n : ¬ 0 < (l1.length : Int) := by omega
            go_wp2_with (first | (go_at_call 18; refine (numv_any _ _).mono ?_; rintro e w' ⟨rfl, rfl⟩) | (go_at_call 30; (with_reducible refine (B1.out _).mono ?_); rintro e w6 ⟨rfl, hs6⟩))
            have hz6 := (fut w2 w6).size
            clear p0 lp s0 s1 s2 ls
            go_loopw [17, 18, 19, 20, 21] (fun i _ _ _ _ wr => ∃ m : Nat, m ≤ l1.length ∧ i = .int .i64 m ∧ Step w6 wr) (fun i _ _ _ _ _ => l1.length - (intOf i).toNat)
            case atStart => exact ⟨0, Nat.zero_le _, rfl, Step.of⟩
            case round =>
              obtain ⟨m, hm, rfl, hst6⟩ := hrel
              obtain rfl : m = 0 := by omega
              go_wp2_with fail
              go_ret
              exact ⟨rfl, Step.of⟩
          · have htb : tb = true := by
              obtain ⟨x, hx⟩ : ∃ x, l1[0]? = some x := ⟨_, List.getElem?_eq_getElem (by omega)⟩
              obtain ⟨i, hi, _, hy⟩ := HYES.out x (List.mem_of_getElem? hx)
              have hri : rs[i]? = some rs[i] := List.getElem?_eq_getElem hi
              exact HGT.out (rs[i]).vs (by rw [← HVSS.out]; exact List.mem_map.2 ⟨_, List.getElem_mem hi, rfl⟩) (hy _ hri)
            subst htb
            have hl0n : 0 < (l1.length : Int) := by omega
            go_wp2_with (first | (go_at_call 18; refine (numv_any _ _).mono ?_; rintro e w' ⟨rfl, rfl⟩) | (go_at_call 30; (with_reducible refine (B1.out _).mono ?_); rintro e w6 ⟨rfl, hs6⟩))
            have hz6 := (fut w2 w6).size
            clear p0 lp s0 s1 s2 ls
            go_loopw [17, 18, 19, 20, 21] (fun i _ _ _ _ wr => ∃ m : Nat, m ≤ l1.length ∧ i = .int .i64 m ∧ Step w6 wr) (fun i _ _ _ _ _ => l1.length - (intOf i).toNat)
            case atStart => exact ⟨0, Nat.zero_le _, rfl, Step.of⟩
            case round =>
              obtain ⟨m, hm, rfl, hst6⟩ := hrel
              obtain ⟨wq, rfl⟩ : ∃ x : World, x = wr := ⟨_, rfl⟩
              have hzq := hst6.size
              by_cases hmt : m < l1.length
              · have hmi : (m : Int) < (l1.length : Int) := by omega
                have hm0 : (0 : Int) ≤ (m : Int) := by omega
                obtain ⟨b1, o1, hA1, hb1, hc1⟩ := HS2.out.elem (w' := wq) inferInstance (k := m) (by rw [intCells_len]; exact hmt)
                obtain ⟨x, hx⟩ : ∃ x, l1[m]? = some x := ⟨_, List.getElem?_eq_getElem hmt⟩
                have x0 := At.l1 (hc1 m [.int .i64 x] (by simp [intCells, hx]))
                simp only [Nat.mul_one] at x0
                obtain ⟨i, hi, rfl, hyr⟩ := HYES.out x (List.mem_of_getElem? hx)
                obtain ⟨b, off, hA, hb, r, hrk, hri, r0⟩ := hr.row (w' := wq) inferInstance hi
                have hlast := hyr r hrk
                have hrw := HROW.out r (List.mem_of_getElem? hrk)
                have hrl := hri.hcapm
                have hil : (i : Int) < (rs.length : Int) := by omega
                have hi0 : (0 : Int) ≤ (i : Int) := by omega
                have lb1 : b1 < wq.heap.size := by omega
                have lb : b < wq.heap.size := by omega
                have PT := fun w' [Fut w w'] => rPart_any id fs Af cf s As cs r.vs r.A r.cap w' hf hs hri.at_ (HFINE.out r (List.mem_of_getElem? hrk)) (by omega)
                have h3_ := HSB.out.fut (w' := wq); obtain ⟨s0, s1, s2⟩ := At.z3 h3_.at0; have ls := h3_.lt; have h4_ := HFB.out.fut (w' := wq); obtain ⟨f0, f1⟩ := At.z2 h4_.at0; have lf := h4_.lt
                rw [hA1, hA]
                have HRW := hide hrw; have HLA := hide hlast
                have HA1 := hide hA1; have HA := hide hA
                clear hx hrk hyr hc1 h3_ h4_ hrw hlast hA1 hA
                by_cases hsp : specB id fs s = true
                · rw [show partR id fs s r.vs = (partT s fs r.vs, 0) by rw [partR, if_pos ⟨hsp, HRW.out.1⟩]] at PT
                  simp only [partT_len] at PT
                  have PT := hide PT
                  have HSPB := hide hsp
                  clear hsp
                  go_upto_region 22 with (fail)
                  refine wp_region_held_drew (S := (fun w' => Step wq w' ∧ (∀ b o, b < wq.heap.size → w'.cell? ⟨b, o, none⟩ = wq.cell? ⟨b, o, none⟩))) (by kernel_rfl) (by (try dsimp only); (first | exact ⟨hS1, hS2⟩ | exact ⟨Step.of, (bcell (fut _ _)).1⟩)) (fun hHeld => ?_)
                  refine wpAnyH_take (i := 0) (oi := ⟨some 101, _, _, _, _, _⟩) (v := ?_) rfl (by kernel_rfl) (by kernel_rfl) (by kernel_rfl) (fun _ _ _ h => h) (Or.inl ⟨by rfl, ?_⟩) (by assumption) ?_
                  rotate_left
                  · ((intro w hSw); (try dsimp only at hSw); go_simp; (try with_reducible rfl))
                  (try simp only [Act.put, List.setIfInBounds_toArray, List.set_cons_zero, List.set_cons_succ])
                  refine wpAnyH_take (i := 1) (oi := ⟨some 102, _, _, _, _, _⟩) (v := ?_) rfl (by kernel_rfl) (by kernel_rfl) (by kernel_rfl) (fun _ _ _ h => h) (Or.inl ⟨by rfl, ?_⟩) (by assumption) ?_
                  rotate_left
                  · ((intro w hSw); (try dsimp only at hSw); go_simp; (try with_reducible rfl))
                  (try simp only [Act.put, List.setIfInBounds_toArray, List.set_cons_zero, List.set_cons_succ])
                  refine wpAnyH_take (i := 2) (oi := ⟨some 103, _, _, _, _, _⟩) (v := ?_) rfl (by kernel_rfl) (by kernel_rfl) (by kernel_rfl) (fun _ _ _ h => h) (Or.inl ⟨by rfl, ?_⟩) (by assumption) ?_
                  rotate_left
                  · ((intro w hSw); (try dsimp only at hSw); go_simp; (try with_reducible rfl))
                  (try simp only [Act.put, List.setIfInBounds_toArray, List.set_cons_zero, List.set_cons_succ])
                  refine wpAnyH_take (i := 3) (oi := ⟨some 104, _, _, _, _, _⟩) (v := ?_) rfl (by kernel_rfl) (by kernel_rfl) (by kernel_rfl) (fun _ _ _ h => h) (Or.inl ⟨by rfl, ?_⟩) (by assumption) ?_
                  rotate_left
                  · ((intro w hSw); (try dsimp only at hSw); go_simp; (try with_reducible rfl))
                  (try simp only [Act.put, List.setIfInBounds_toArray, List.set_cons_zero, List.set_cons_succ])
                  refine wpAnyH_take (i := 4) (oi := ⟨some 105, _, _, _, _, _⟩) (v := ?_) rfl (by kernel_rfl) (by kernel_rfl) (by kernel_rfl) (fun _ _ _ h => h) (Or.inl ⟨by rfl, ?_⟩) (by assumption) ?_
                  rotate_left
                  · ((intro w hSw); (try dsimp only at hSw); go_simp; (try with_reducible rfl))
                  (try simp only [Act.put, List.setIfInBounds_toArray, List.set_cons_zero, List.set_cons_succ])
                  refine wpAnyH_take (i := 5) (oi := ⟨some 106, _, _, _, _, _⟩) (v := ?_) rfl (by kernel_rfl) (by kernel_rfl) (by kernel_rfl) (fun _ _ _ h => h) (Or.inl ⟨by rfl, ?_⟩) (by assumption) ?_
                  rotate_left
                  · ((intro w hSw); (try dsimp only at hSw); go_simp; (try with_reducible rfl))
                  (try simp only [Act.put, List.setIfInBounds_toArray, List.set_cons_zero, List.set_cons_succ])
                  refine wpAnyH_take (i := 6) (oi := ⟨some 107, _, _, _, _, _⟩) (v := ?_) rfl (by kernel_rfl) (by kernel_rfl) (by kernel_rfl) (fun _ _ _ h => h) (Or.inl ⟨by rfl, ?_⟩) (by assumption) ?_
                  rotate_left
                  · ((intro w hSw); (try dsimp only at hSw); go_simp; (try with_reducible rfl))
                  (try simp only [Act.put, List.setIfInBounds_toArray, List.set_cons_zero, List.set_cons_succ])
                  refine wpAnyH_take (i := 7) (oi := ⟨some 108, _, _, _, _, _⟩) (v := ?_) rfl (by kernel_rfl) (by kernel_rfl) (by kernel_rfl) (fun _ _ _ h => h) (Or.inl ⟨by rfl, ?_⟩) (by assumption) ?_
                  rotate_left
                  · ((intro w hSw); (try dsimp only at hSw); go_simp; (try with_reducible rfl))
                  (try simp only [Act.put, List.setIfInBounds_toArray, List.set_cons_zero, List.set_cons_succ])
                  refine wpAnyH_take (i := 8) (oi := ⟨some 109, _, _, _, _, _⟩) (v := ?_) rfl (by kernel_rfl) (by kernel_rfl) (by kernel_rfl) (fun _ _ _ h => h) (Or.inl ⟨by rfl, ?_⟩) (by assumption) ?_
                  rotate_left
                  · ((intro w hSw); (try dsimp only at hSw); go_simp; (try with_reducible rfl))
                  (try simp only [Act.put, List.setIfInBounds_toArray, List.set_cons_zero, List.set_cons_succ])
                  refine wpAnyH_ready (rs := [9]) (by kernel_rfl) (by simp) ?_
                  refine AllReadyH.cons (o := ⟨some 110, _, _, _, _, _⟩) rfl (fun K hK => ?_) AllReadyH.nil
                  obtain ⟨hS1, hS2⟩ := hHeld
                  go_simp
                  (go_at_call 31; (with_reducible refine (PT.out _).mono ?_); rintro e w7 ⟨A7, c7, rfl, ho7, hs7⟩; have HO7 := hide ho7; clear ho7)
                  refine hK.out _ _ (by (try dsimp only); (first | exact ⟨hS1, hS2⟩ | exact ⟨Step.of, (bcell (fut _ _)).1⟩)) (fun hHeld => ?_)
                  clear hK K
                  (try simp only [Act.put, List.setIfInBounds_toArray, List.set_cons_zero, List.set_cons_succ])
                  refine wpAnyH_take (i := 10) (oi := ⟨some 100, _, _, _, _, _⟩) (v := ?_) rfl (by kernel_rfl) (by kernel_rfl) (by kernel_rfl) (fun _ _ _ h => h) (Or.inl ⟨by rfl, ?_⟩) (by assumption) ?_
                  rotate_left
                  · ((intro w hSw); (try dsimp only at hSw); go_simp; (try with_reducible rfl))
                  (try simp only [Act.put, List.setIfInBounds_toArray, List.set_cons_zero, List.set_cons_succ])
                  refine wpAnyH_take (i := 11) (oi := ⟨some 111, _, _, _, _, _⟩) (v := ?_) rfl (by kernel_rfl) (by kernel_rfl) (by kernel_rfl) (fun _ _ _ h => h) (Or.inl ⟨by rfl, ?_⟩) (by assumption) ?_
                  rotate_left
                  · ((intro w hSw); (try dsimp only at hSw); go_simp; (try with_reducible rfl))
                  (try simp only [Act.put, List.setIfInBounds_toArray, List.set_cons_zero, List.set_cons_succ])
                  refine wpAnyH_take (i := 12) (oi := ⟨some 112, _, _, _, _, _⟩) (v := ?_) rfl (by kernel_rfl) (by kernel_rfl) (by kernel_rfl) (fun _ _ _ h => h) (Or.inl ⟨by rfl, ?_⟩) (by assumption) ?_
                  rotate_left
                  · ((intro w hSw); (try dsimp only at hSw); go_simp; (try with_reducible rfl))
                  (try simp only [Act.put, List.setIfInBounds_toArray, List.set_cons_zero, List.set_cons_succ])
                  refine wpAnyH_take (i := 13) (oi := ⟨some 18, _, _, _, _, _⟩) (v := ?_) rfl (by kernel_rfl) (by kernel_rfl) (by kernel_rfl) (fun _ _ _ h => h) (Or.inl ⟨by rfl, ?_⟩) (by assumption) ?_
                  rotate_left
                  · ((intro w hSw); (try dsimp only at hSw); go_simp; (try with_reducible rfl))
                  (try simp only [Act.put, List.setIfInBounds_toArray, List.set_cons_zero, List.set_cons_succ])
                  refine wpAnyH_take (i := 14) (oi := ⟨some 19, _, _, _, _, _⟩) (v := ?_) rfl (by kernel_rfl) (by kernel_rfl) (by kernel_rfl) (fun _ _ _ h => h) (Or.inl ⟨by rfl, ?_⟩) (by assumption) ?_
                  rotate_left
                  · ((intro w hSw); (try dsimp only at hSw); go_simp; (try with_reducible rfl))
                  (try simp only [Act.put, List.setIfInBounds_toArray, List.set_cons_zero, List.set_cons_succ])
                  refine wpAnyH_done (by kernel_rfl) ?_ _
                  clear hHeld x0 r0 lb1 lb s0 s1 s2 ls f0 f1 lf
                  have HS7 := hide (HO7.out.sl (vals_fit (partT s fs r.vs)).len)
                  have hz7 := (fut wq w7).size
                  have q1 := fun w' [Fut w w'] [Fut w7 w'] => pparts_any ps Ap cp s As cs id fs Af cf (partT s fs r.vs) A7 c7 w' hp hs hf HS7.out
                  rw [file_part HC1.out HSPB.out HLA.out] at q1
                  unfold Sch.val at q1
                  simp only [partT_len] at q1
                  have Q1 := hide q1
                  clear q1
                  have h1_ := HPB.out.fut (w' := w7); have p0 := At.z1 h1_.at0; have lp := h1_.lt; have h3_ := HSB.out.fut (w' := w7); obtain ⟨s0, s1, s2⟩ := At.z3 h3_.at0; have ls := h3_.lt; have h4_ := HFB.out.fut (w' := w7); obtain ⟨f0, f1⟩ := At.z2 h4_.at0; have lf := h4_.lt; clear h1_ h3_ h4_
                  go_wp2_with (first | (go_at_call 18; refine (numv_any _ _).mono ?_; rintro e w' ⟨rfl, rfl⟩) | (go_at_call 32; (with_reducible refine (Q1.out _).mono ?_); rintro e w8 ⟨rfl, hs8⟩))
                  go_roundw
                  case rel => exact ⟨m + 1, by omega, by go_num, Step.of⟩
                  case measure => simp [intOf]; omega
                · rw [show partR id fs s r.vs = ([], 1300) by rw [partR, if_neg (fun h => hsp h.1)]] at PT
                  simp only [List.length_nil] at PT
                  have PT := hide PT
                  clear hsp
                  go_upto_region 22 with (fail)
                  refine wp_region_held_drew (S := (fun w' => Step wq w' ∧ (∀ b o, b < wq.heap.size → w'.cell? ⟨b, o, none⟩ = wq.cell? ⟨b, o, none⟩))) (by kernel_rfl) (by (try dsimp only); (first | exact ⟨hS1, hS2⟩ | exact ⟨Step.of, (bcell (fut _ _)).1⟩)) (fun hHeld => ?_)
                  refine wpAnyH_take (i := 0) (oi := ⟨some 101, _, _, _, _, _⟩) (v := ?_) rfl (by kernel_rfl) (by kernel_rfl) (by kernel_rfl) (fun _ _ _ h => h) (Or.inl ⟨by rfl, ?_⟩) (by assumption) ?_
                  rotate_left
                  · ((intro w hSw); (try dsimp only at hSw); go_simp; (try with_reducible rfl))
                  (try simp only [Act.put, List.setIfInBounds_toArray, List.set_cons_zero, List.set_cons_succ])
                  refine wpAnyH_take (i := 1) (oi := ⟨some 102, _, _, _, _, _⟩) (v := ?_) rfl (by kernel_rfl) (by kernel_rfl) (by kernel_rfl) (fun _ _ _ h => h) (Or.inl ⟨by rfl, ?_⟩) (by assumption) ?_
                  rotate_left
                  · ((intro w hSw); (try dsimp only at hSw); go_simp; (try with_reducible rfl))
                  (try simp only [Act.put, List.setIfInBounds_toArray, List.set_cons_zero, List.set_cons_succ])
                  refine wpAnyH_take (i := 2) (oi := ⟨some 103, _, _, _, _, _⟩) (v := ?_) rfl (by kernel_rfl) (by kernel_rfl) (by kernel_rfl) (fun _ _ _ h => h) (Or.inl ⟨by rfl, ?_⟩) (by assumption) ?_
                  rotate_left
                  · ((intro w hSw); (try dsimp only at hSw); go_simp; (try with_reducible rfl))
                  (try simp only [Act.put, List.setIfInBounds_toArray, List.set_cons_zero, List.set_cons_succ])
                  refine wpAnyH_take (i := 3) (oi := ⟨some 104, _, _, _, _, _⟩) (v := ?_) rfl (by kernel_rfl) (by kernel_rfl) (by kernel_rfl) (fun _ _ _ h => h) (Or.inl ⟨by rfl, ?_⟩) (by assumption) ?_
                  rotate_left
                  · ((intro w hSw); (try dsimp only at hSw); go_simp; (try with_reducible rfl))
                  (try simp only [Act.put, List.setIfInBounds_toArray, List.set_cons_zero, List.set_cons_succ])
                  refine wpAnyH_take (i := 4) (oi := ⟨some 105, _, _, _, _, _⟩) (v := ?_) rfl (by kernel_rfl) (by kernel_rfl) (by kernel_rfl) (fun _ _ _ h => h) (Or.inl ⟨by rfl, ?_⟩) (by assumption) ?_
                  rotate_left
                  · ((intro w hSw); (try dsimp only at hSw); go_simp; (try with_reducible rfl))
                  (try simp only [Act.put, List.setIfInBounds_toArray, List.set_cons_zero, List.set_cons_succ])
                  refine wpAnyH_take (i := 5) (oi := ⟨some 106, _, _, _, _, _⟩) (v := ?_) rfl (by kernel_rfl) (by kernel_rfl) (by kernel_rfl) (fun _ _ _ h => h) (Or.inl ⟨by rfl, ?_⟩) (by assumption) ?_
                  rotate_left
                  · ((intro w hSw); (try dsimp only at hSw); go_simp; (try with_reducible rfl))
                  (try simp only [Act.put, List.setIfInBounds_toArray, List.set_cons_zero, List.set_cons_succ])
                  refine wpAnyH_take (i := 6) (oi := ⟨some 107, _, _, _, _, _⟩) (v := ?_) rfl (by kernel_rfl) (by kernel_rfl) (by kernel_rfl) (fun _ _ _ h => h) (Or.inl ⟨by rfl, ?_⟩) (by assumption) ?_
                  rotate_left
                  · ((intro w hSw); (try dsimp only at hSw); go_simp; (try with_reducible rfl))
                  (try simp only [Act.put, List.setIfInBounds_toArray, List.set_cons_zero, List.set_cons_succ])
                  refine wpAnyH_take (i := 7) (oi := ⟨some 108, _, _, _, _, _⟩) (v := ?_) rfl (by kernel_rfl) (by kernel_rfl) (by kernel_rfl) (fun _ _ _ h => h) (Or.inl ⟨by rfl, ?_⟩) (by assumption) ?_
                  rotate_left
                  · ((intro w hSw); (try dsimp only at hSw); go_simp; (try with_reducible rfl))
                  (try simp only [Act.put, List.setIfInBounds_toArray, List.set_cons_zero, List.set_cons_succ])
                  refine wpAnyH_take (i := 8) (oi := ⟨some 109, _, _, _, _, _⟩) (v := ?_) rfl (by kernel_rfl) (by kernel_rfl) (by kernel_rfl) (fun _ _ _ h => h) (Or.inl ⟨by rfl, ?_⟩) (by assumption) ?_
                  rotate_left
                  · ((intro w hSw); (try dsimp only at hSw); go_simp; (try with_reducible rfl))
                  (try simp only [Act.put, List.setIfInBounds_toArray, List.set_cons_zero, List.set_cons_succ])
                  refine wpAnyH_ready (rs := [9]) (by kernel_rfl) (by simp) ?_
                  refine AllReadyH.cons (o := ⟨some 110, _, _, _, _, _⟩) rfl (fun K hK => ?_) AllReadyH.nil
                  obtain ⟨hS1, hS2⟩ := hHeld
                  go_simp
                  (go_at_call 31; (with_reducible refine (PT.out _).mono ?_); rintro e w7 ⟨A7, c7, rfl, ho7, hs7⟩; have HO7 := hide ho7; clear ho7)
                  refine hK.out _ _ (by (try dsimp only); (first | exact ⟨hS1, hS2⟩ | exact ⟨Step.of, (bcell (fut _ _)).1⟩)) (fun hHeld => ?_)
                  clear hK K
                  (try simp only [Act.put, List.setIfInBounds_toArray, List.set_cons_zero, List.set_cons_succ])
                  refine wpAnyH_take (i := 10) (oi := ⟨some 100, _, _, _, _, _⟩) (v := ?_) rfl (by kernel_rfl) (by kernel_rfl) (by kernel_rfl) (fun _ _ _ h => h) (Or.inl ⟨by rfl, ?_⟩) (by assumption) ?_
                  rotate_left
                  · ((intro w hSw); (try dsimp only at hSw); go_simp; (try with_reducible rfl))
                  (try simp only [Act.put, List.setIfInBounds_toArray, List.set_cons_zero, List.set_cons_succ])
                  refine wpAnyH_take (i := 11) (oi := ⟨some 111, _, _, _, _, _⟩) (v := ?_) rfl (by kernel_rfl) (by kernel_rfl) (by kernel_rfl) (fun _ _ _ h => h) (Or.inl ⟨by rfl, ?_⟩) (by assumption) ?_
                  rotate_left
                  · ((intro w hSw); (try dsimp only at hSw); go_simp; (try with_reducible rfl))
                  (try simp only [Act.put, List.setIfInBounds_toArray, List.set_cons_zero, List.set_cons_succ])
                  refine wpAnyH_take (i := 12) (oi := ⟨some 112, _, _, _, _, _⟩) (v := ?_) rfl (by kernel_rfl) (by kernel_rfl) (by kernel_rfl) (fun _ _ _ h => h) (Or.inl ⟨by rfl, ?_⟩) (by assumption) ?_
                  rotate_left
                  · ((intro w hSw); (try dsimp only at hSw); go_simp; (try with_reducible rfl))
                  (try simp only [Act.put, List.setIfInBounds_toArray, List.set_cons_zero, List.set_cons_succ])
                  refine wpAnyH_take (i := 13) (oi := ⟨some 18, _, _, _, _, _⟩) (v := ?_) rfl (by kernel_rfl) (by kernel_rfl) (by kernel_rfl) (fun _ _ _ h => h) (Or.inl ⟨by rfl, ?_⟩) (by assumption) ?_
                  rotate_left
                  · ((intro w hSw); (try dsimp only at hSw); go_simp; (try with_reducible rfl))
                  (try simp only [Act.put, List.setIfInBounds_toArray, List.set_cons_zero, List.set_cons_succ])
                  refine wpAnyH_take (i := 14) (oi := ⟨some 19, _, _, _, _, _⟩) (v := ?_) rfl (by kernel_rfl) (by kernel_rfl) (by kernel_rfl) (fun _ _ _ h => h) (Or.inl ⟨by rfl, ?_⟩) (by assumption) ?_
                  rotate_left
                  · ((intro w hSw); (try dsimp only at hSw); go_simp; (try with_reducible rfl))
                  (try simp only [Act.put, List.setIfInBounds_toArray, List.set_cons_zero, List.set_cons_succ])
                  refine wpAnyH_done (by kernel_rfl) ?_ _
                  clear hHeld x0 r0 lb1 lb s0 s1 s2 ls f0 f1 lf
                  go_wp2_with fail
                  go_ret
                  exact ⟨rfl, Step.of⟩
              · obtain rfl : m = l1.length := by omega
                go_wp2_with fail
                go_ret
                exact ⟨rfl, Step.of⟩
  · have he1b : (e1 == 0) = false := beq_eq_false_iff_ne.2 he1
    go_wp2_with (go_at_call 18; refine (numv_any _ _).mono ?_; rintro e w' ⟨rfl, rfl⟩)
    go_ret
    exact ⟨rfl, Step.of⟩
end Go.Proofs.YtafgfehjdbomfaaDoor
