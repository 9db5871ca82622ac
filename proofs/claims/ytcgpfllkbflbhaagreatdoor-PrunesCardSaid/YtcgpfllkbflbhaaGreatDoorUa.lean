/-
  The document's set, cmpSet and mixed.
-/
import Derived.Test.YtcgpfllkbflbhaaGreatDoorTa
import Derived.Test.YtcgpfllkbflbhaaGreatDoorQa
namespace Go.Proofs.YtcgpfllkbflbhaaGreatDoor
open Go.RowKit

/-- A node's set by its column's statistics, the column by its Id. -/
def leafS (id : Int) (sts : List Sta) (rows : Int) (n : Nod) : Nat :=
  if 0 ≤ idx (statOf id) sts then toldS n (sts.getD (sts.findIdx (statOf id)) Sta.zero) rows else if n.kind = 2 then 2 else 4
theorem leafStat_S (s : Sch) (sts : List Sta) (rows : Int) (n : Nod) : leafStat s sts rows n = leafS (nodId s n) sts rows n := rfl
def setR (no yes unk : Bool) : Nat := (if no then 1 else 0) + (if yes then 2 else 0) + (if unk then 4 else 0)
/-- May a comparison be, by how the two bounds stand to its value? -/
def cmpY (c lo hi : Int) : Bool :=
  if c = 0 then decide (lo ≤ 0) && decide (0 ≤ hi) else if c = 1 then lo != 0 || hi != 0 else if c = 2 then decide (lo < 0) else if c = 3 then decide (lo ≤ 0) else if c = 4 then decide (0 < hi) else decide (0 ≤ hi)
theorem some_clean (c : Int) (a b v : Val) : someB c (clean a) (clean b) v = someB c a b v := by
  unfold someB standB
  simp only [lessV_clean_l, lessV_clean_r]
theorem cmpY_some {c : Int} (a b v : Val) (h0 : 0 ≤ c) (h5 : c ≤ 5) : cmpY c (cmpV a v) (cmpV b v) = someB c a b v := by
  have ha := @lessV_asymm a v
  have hb := @lessV_asymm b v
  have : c = 0 ∨ c = 1 ∨ c = 2 ∨ c = 3 ∨ c = 4 ∨ c = 5 := by omega
  unfold cmpY someB standB cmpV
  generalize lessV a v = p at *
  generalize lessV v a = q at *
  generalize lessV b v = r at *
  generalize lessV v b = t at *
  rcases this with rfl | rfl | rfl | rfl | rfl | rfl <;> cases p <;> cases q <;> cases r <;> cases t <;> simp_all
theorem told_null {n : Nod} (t : Sta) (rows : Int) (h : n.kind = 2) : toldS n t rows = setR (decide (t.nulls < rows)) (decide (0 < t.nulls)) false := by
  unfold toldS
  rw [if_pos h]
  generalize decide (0 < t.nulls) = p
  generalize decide (t.nulls < rows) = q
  cases p <;> cases q <;> decide
theorem told_cmp {n : Nod} (t : Sta) (rows : Int) (h : n.kind ≠ 2) (hc : 0 ≤ n.cmp ∧ n.cmp ≤ 5) (hr : t.nulls < rows) :
    toldS n t rows = setR (cmpY (oppC n.cmp) (cmpV t.mn n.v) (cmpV t.mx n.v)) (cmpY n.cmp (cmpV t.mn n.v) (cmpV t.mx n.v)) (decide (0 < t.nulls)) := by
  have ho := oppC_bd n.cmp
  unfold toldS
  rw [if_neg h, if_pos hr, cmpY_some _ _ _ hc.1 hc.2, cmpY_some _ _ _ ho.1 ho.2, some_clean, some_clean]
  generalize decide (0 < t.nulls) = p
  generalize someB n.cmp t.mn t.mx n.v = q
  generalize someB (oppC n.cmp) t.mn t.mx n.v = r
  cases p <;> cases q <;> cases r <;> decide
theorem told_none {n : Nod} (t : Sta) (rows : Int) (h : n.kind ≠ 2) (hr : ¬ t.nulls < rows) : toldS n t rows = setR false false (decide (0 < t.nulls)) := by
  unfold toldS
  rw [if_neg h, if_neg hr]
  generalize decide (0 < t.nulls) = p
  cases p <;> decide
/-- The last place that is taken is the first, where no two are alike. -/
theorem fi_ge2 {α : Type} (p : α → Bool) (l : List α) : ∀ k, k ≤ l.length → (∀ i (h : i < l.length), i < k → p l[i] = false) → k ≤ l.findIdx p
  | 0, _, _ => Nat.zero_le _
  | k + 1, hk, h => fi_miss p l k (by omega) (fi_ge2 p l k (by omega) fun i hi hik => h i hi (by omega)) (h k (by omega) (by omega))
theorem fi_last {α : Type} (p : α → Bool) (l : List α) (k : Nat) (hk : k < l.length) (hp : p l[k] = true) (h : ∀ i (h : i < l.length), i < k → p l[i] = false) : l.findIdx p = k :=
  fi_hit p l k hk (fi_ge2 p l k (by omega) h) hp
theorem not_set {a : Nat} (h : a < 8) : joinS 3 a a = (a &&& 4) ||| ((a &&& 1) * 2) ||| ((a &&& 2) / 2) := by
  rcases lt8 h with rfl | rfl | rfl | rfl | rfl | rfl | rfl | rfl <;> decide
theorem both_join (or : Bool) {a b : Int} (ha : Tr a) (hb : Tr b) : bothR or a b = joinT (if or then 5 else 4) a b := by
  cases or
  · exact both_and ha hb
  · exact both_or ha hb

theorem rset_any (a b c : Bool) (w : World) : Calls Tryz.prog 59 #[.bool a, .bool b, .bool c] w fun e w' => e = .returned (.int .i64 ((setR a b c : Nat) : Int)) ∧ w = w' := by
  cases a <;> cases b <;> cases c
  all_goals
    go_enter Tryz.func59, Tryz.ntmps59
    go_wp2_with fail
    go_ret
    exact ⟨rfl, rfl⟩
theorem rcmpSet_any (c lo hi : Int) (w : World) (h0 : 0 ≤ c) (h5 : c ≤ 5) : Calls Tryz.prog 60 #[.int .i64 c, .int .i64 lo, .int .i64 hi] w fun e w' => e = .returned (.tuple #[.bool (cmpY c lo hi), .bool (cmpY (oppC c) lo hi)]) ∧ w = w' := by
  have h6 : c = 0 ∨ c = 1 ∨ c = 2 ∨ c = 3 ∨ c = 4 ∨ c = 5 := by omega
  have h3 : lo < 0 ∨ lo = 0 ∨ 0 < lo := by omega
  clear h0 h5
  rcases h3 with h3 | h3 | h3
  · have x1 : lo ≤ 0 := by omega
    have x2 : (lo != 0) = true := by simp; omega
    rcases h6 with rfl | rfl | rfl | rfl | rfl | rfl
    all_goals
      go_enter Tryz.func60, Tryz.ntmps60
      go_wp2_with fail
      go_ret2
      exact ⟨by simp [cmpY, oppC, x1, x2, h3], rfl⟩
  · subst h3
    rcases h6 with rfl | rfl | rfl | rfl | rfl | rfl
    all_goals
      go_enter Tryz.func60, Tryz.ntmps60
      go_wp2_with fail
      go_ret2
      exact ⟨by simp [cmpY, oppC], rfl⟩
  · have x1 : ¬ lo ≤ 0 := by omega
    have x2 : (lo != 0) = true := by simp; omega
    have x3 : ¬ lo < 0 := by omega
    rcases h6 with rfl | rfl | rfl | rfl | rfl | rfl
    all_goals
      go_enter Tryz.func60, Tryz.ntmps60
      go_wp2_with fail
      go_ret2
      exact ⟨by simp [cmpY, oppC, x1, x2, x3] <;> omega, rfl⟩

/-- Is a truth in a set, as the document asks it? -/
theorem bit_ask {s t : Nat} (hs : s < 8) (ht : t < 3) : (bits .and .i64 ((s : Int) / 2 ^ t) 1 == 1) = s.testBit t := by
  rcases lt8 hs with rfl | rfl | rfl | rfl | rfl | rfl | rfl | rfl <;> rcases lt3 ht with rfl | rfl | rfl <;> decide

set_option maxRecDepth 100000 in
set_option maxHeartbeats 8000000 in
theorem rmixed_any (or : Bool) (a b : Nat) (w : World) (ha : a < 8) (hb : b < 8) :
    Calls Tryz.prog 61 #[.bool or, .int .i64 (a : Int), .int .i64 (b : Int)] w fun e w' => e = .returned (.int .i64 ((joinS (if or then 5 else 4) a b : Nat) : Int)) ∧ w = w' := by
  obtain ⟨kk, hkk⟩ : ∃ kk : Int, (if or then 5 else 4) = kk := ⟨_, rfl⟩
  have hk3 : (kk != 3) = true := by cases or <;> subst hkk <;> decide
  have HKK := hide hkk
  have HK3 := hide hk3
  rw [hkk]
  clear hkk hk3
  go_enter Tryz.func61, Tryz.ntmps61
  go_wp2_with fail
  go_loop [7, 8, 9] (fun out i _ => ∃ x : Nat, x ≤ 3 ∧ i = .int .i64 x ∧ out = .int .i64 ((outerS kk a b x : Nat) : Int)) (fun _ i _ => 3 - (intOf i).toNat)
  case atStart => exact ⟨0, by omega, rfl, rfl⟩
  case round =>
    obtain ⟨x, hx, rfl, rfl⟩ := hrel
    by_cases hx3 : x < 3
    · have hxi : (x : Int) < 3 := by omega
      have hx0 : (0 : Int) ≤ (x : Int) := by omega
      have HO8 := hide (outerS_lt (k := kk) (a := a) (b := b) x)
      have HSU : Hid (outerS kk a b (x + 1) = innerS kk a b x 3 (outerS kk a b x)) := hide rfl
      obtain ⟨o, ho⟩ : ∃ o, outerS kk a b x = o := ⟨_, rfl⟩
      rw [ho] at HO8 HSU
      rw [ho]
      clear ho
      go_wp2_with fail
      go_loop [7, 9] (fun out j => ∃ y : Nat, y ≤ 3 ∧ j = .int .i64 y ∧ out = .int .i64 ((innerS kk a b x y o : Nat) : Int)) (fun _ j => 3 - (intOf j).toNat)
      case atStart => exact ⟨0, by omega, rfl, rfl⟩
      case round =>
        obtain ⟨y, hy, rfl, rfl⟩ := hrel
        by_cases hy3 : y < 3
        · have hyi : (y : Int) < 3 := by omega
          have hy0 : (0 : Int) ≤ (y : Int) := by omega
          have HI8 := hide (innerS_lt (k := kk) (a := a) (b := b) (x := x) y HO8.out)
          have HS : Hid (innerS kk a b x (y + 1) o = stepS kk a b x y (innerS kk a b x y o)) := hide rfl
          obtain ⟨s, hs⟩ : ∃ s, innerS kk a b x y o = s := ⟨_, rfl⟩
          rw [hs] at HI8 HS
          rw [hs]
          clear hs
          have b1 := bit_ask ha hx3
          have b2 := bit_ask hb hy3
          obtain ⟨p, hp⟩ : ∃ p, a.testBit x = p := ⟨_, rfl⟩
          obtain ⟨q, hq⟩ : ∃ q, b.testBit y = q := ⟨_, rfl⟩
          have hT := tr_nat (joinT_tr kk x y)
          have PB := fun w' => rboth_any or x y w' (tr_of hx3) (tr_of hy3)
          rw [both_join or (tr_of hx3) (tr_of hy3), HKK.out, hT.1] at PB
          have ht3 := hT.2
          clear hT
          obtain ⟨t, ht⟩ : ∃ t, (joinT kk x y).toNat = t := ⟨_, rfl⟩
          rw [ht] at PB ht3
          have PBH := hide PB
          have HR : Hid (stepS kk a b x y s = if p && q then orS s (ofT [t]) else s) := by show _ = _; rw [stepS, hp, hq, HK3.out, ht]; simp
          rw [hp] at b1
          rw [hq] at b2
          have HT3 := hide ht3
          clear hp hq ht PB ht3
          have hx3n : x < 64 := by omega
          have RND : Hid (orS s (ofT [t]) < 8) := by show _ < _; exact orS_lt HI8.out (ofT_one HT3.out)
          cases p
          · go_wp2_with fail
            go_round
            case rel => exact ⟨y + 1, by omega, by go_num, by rw [HS.out, HR.out]; rfl⟩
            case measure => simp [intOf]; omega
          · cases q
            · go_wp2_with fail
              go_round
              case rel => exact ⟨y + 1, by omega, by go_num, by rw [HS.out, HR.out]; rfl⟩
              case measure => simp [intOf]; omega
            · go_wp2_with (go_at_call 79; refine (PBH.out _).mono ?_; rintro e w' ⟨rfl, rfl⟩)
              have hs8 := HI8.out
              have ht3 := HT3.out
              clear PBH HI8 HT3 RND
              rcases lt3 ht3 with rfl | rfl | rfl <;> rcases lt8 hs8 with rfl | rfl | rfl | rfl | rfl | rfl | rfl | rfl
              all_goals
                go_round
                case rel => exact ⟨y + 1, by omega, by go_num, by rw [HS.out, HR.out]; kernel_rfl⟩
                case measure => simp [intOf]; omega
        · have hyi : ¬ (y : Int) < 3 := by omega
          have e3 : y = 3 := by omega
          subst e3
          go_wp2_with fail
          go_round
          case rel => exact ⟨x + 1, by omega, by go_num, by rw [HSU.out]⟩
          case measure => simp [intOf]; omega
    · have hxi : ¬ (x : Int) < 3 := by omega
      have e3 : x = 3 := by omega
      subst e3
      go_wp2_with fail
      go_ret
      exact ⟨rfl, rfl⟩
end Go.Proofs.YtcgpfllkbflbhaaGreatDoor
