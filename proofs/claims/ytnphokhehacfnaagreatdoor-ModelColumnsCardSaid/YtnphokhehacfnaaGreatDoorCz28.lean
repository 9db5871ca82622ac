/-
  Texts put together: Xr.
-/
import Derived.Test.YtnphokhehacfnaaGreatDoorCz21
import Derived.Test.YtnphokhehacfnaaGreatDoorCz26
import Derived.Test.YtnphokhehacfnaaGreatDoorCz27
namespace Go.Proofs.YtnphokhehacfnaaGreatDoor
open Go.RowKit

/-- Sorted rows of the same elements are the same. -/
theorem asc_clean : ∀ {a b : List (List Val)}, Asc lessL a → Asc lessL b → a.Perm b → (∀ x ∈ a, x.map clean = x) → a = b
  | [], b, _, _, hp, _ => by have := hp.symm.eq_nil; exact this.symm
  | x :: a, [], _, _, hp, _ => by have := hp.eq_nil; exact this
  | x :: a, y :: b, ha, hb, hp, hc => by
    have h1 := List.pairwise_cons.1 ha
    have h2 := List.pairwise_cons.1 hb
    have exy : x = y := by
      have m1 : x ∈ y :: b := hp.mem_iff.1 (by simp)
      have m2 : y ∈ x :: a := hp.mem_iff.2 (by simp)
      rcases List.mem_cons.1 m1 with e | e
      · exact e
      · rcases List.mem_cons.1 m2 with e2 | e2
        · exact e2.symm
        · have := lessL_tie (h2.1 x e) (h1.1 y e2)
          rw [hc x (by simp), hc y m2] at this
          exact this
    subst exy
    rw [asc_clean h1.2 h2.2 (List.Perm.cons_inv hp) fun z hz => hc z (by simp [hz])]
theorem asc_same {a b vss : List (List Val)} (ha : Asc lessL a) (hb : Asc lessL b) (h1 : a.Perm (vss.map cleanL)) (h2 : b.Perm (vss.map cleanL)) : a = b :=
  asc_clean ha hb (h1.trans h2.symm) fun x hx => by
    obtain ⟨y, _, rfl⟩ := List.mem_map.1 (h1.mem_iff.1 hx)
    show (y.map clean).map clean = y.map clean
    rw [List.map_map]
    exact List.map_congr_left fun v _ => clean_clean v
theorem none_checkT {t : Tb} (ht : tabB t = true) : checkE [] t.s = 0 := by
  rw [checkE, if_pos ⟨none_pred, (tabB_iff.1 ht).1⟩]
  rfl
theorem none_yesT {t : Tb} (ht : tabB t = true) {r : List Val} (hr : r ∈ t.rows) : yesV [] t.s r = true := by
  unfold yesV truthR
  rw [none_checkT ht, if_neg (by simp), if_pos (rowW_ok (List.all_eq_true.1 (tabB_iff.1 ht).2.2.2 r hr))]
  rfl
theorem allT {t : Tb} (ht : tabB t = true) : (takeR t.rows (selR [] t.s t.rows).1).1 = t.rows := by
  rw [selT ht (none_checkT ht), take_of (yes_bds [] t.s t.rows _), yes_filter _ _ _ _ (Nat.le_refl _), List.take_length, pures ht fun vs hvs => (List.mem_filter.1 hvs).1]
  exact List.filter_eq_self.2 fun r hr => none_yesT ht hr
/-- A read without a predicate. -/
def opRd (col : ByteArray) (cols : List ByteArray) (a : Int) : Opp := ⟨9, cols, [], [], col, e0, 0, no25, [], a⟩
theorem opRd_form {col : ByteArray} {cols : List ByteArray} {a : Int} (h0 : 0 ≤ a) (h4 : a ≤ 4) : ¬ ((opRd col cols a).kind ≠ 9 ∨ predB (opRd col cols a).ns = false ∨ (opRd col cols a).agg < 0 ∨ 4 < (opRd col cols a).agg) := by
  rintro (h | h | h | h)
  · exact h rfl
  · rw [show (opRd col cols a).ns = [] from rfl, none_pred] at h; cases h
  · exact absurd h (by show ¬ a < 0; omega)
  · exact absurd h (by show ¬ 4 < a; omega)
theorem yesT {t : Tb} (ht : tabB t = true) : yesP t [] = .ok (selR [] t.s t.rows).1 := by
  rw [yesP, if_neg (fun h => h (none_checkT ht))]
/-- A count of a column that is null everywhere. -/
theorem countT {t : Tb} {col : ByteArray} (ht : tabB t = true) (hi : 0 ≤ idx (named col) t.s.cols) (hz : ∀ r ∈ t.rows, r.getD (idx (named col) t.s.cols).toNat Val.zero = Val.zero) : readT t (opRd col [] 1) = (0, kv25 0) := by
  rw [readT, if_neg (by rw [ht]; simp), read_eq, if_neg (opRd_form (by omega) (by omega)), show (opRd col [] 1).ns = [] from rfl, yesT ht]
  show (match readB t (opRd col [] 1) (selR [] t.s t.rows).1 with | .error c => (c, Val.zero) | .ok v => (0, v)) = _
  rw [readB, if_neg (by show ¬ ([] : List ByteArray).all _ = false; simp), if_neg (by show ¬ idx (named col) t.s.cols < 0; omega), allT ht]
  rw [show (opRd col [] 1).col = col from rfl]
  have hn : (nullsP ((t.rows.map (pickC (idx (named col) t.s.cols).toNat)).map clean)) = (t.rows.map (pickC (idx (named col) t.s.cols).toNat)).length := by
    have h : ((t.rows.map (pickC (idx (named col) t.s.cols).toNat)).map clean).countP (fun v => kindV v == 0) = ((t.rows.map (pickC (idx (named col) t.s.cols).toNat)).map clean).length := List.countP_eq_length.2 fun v hv => by
      obtain ⟨u, hu, rfl⟩ := List.mem_map.1 hv
      obtain ⟨r, hr, rfl⟩ := List.mem_map.1 hu
      rw [show pickC (idx (named col) t.s.cols).toNat r = Val.zero from hz r hr]
      decide
    rw [List.length_map] at h
    exact h
  have ha : aggP (opRd col [] 1).agg (t.rows.map (pickC (idx (named col) t.s.cols).toNat)) = (kv25 0, 0) := by
    rw [aggP, if_neg (by show ¬ (1 : Int) = 0; omega), if_pos (by rfl), hn, Int.sub_self]
    rfl
  rw [readC, ha]
  rfl
theorem goneT {t : Tb} {nm : ByteArray} (ht : tabB t = true) (hi : idx (named nm) t.s.cols < 0) : readR t (opRd e0 [nm] 0) = .error 5 := by
  rw [readR, if_neg (by rw [ht]; simp), readN_eq, if_neg (opRd_form (by omega) (by omega)), show (opRd e0 [nm] 0).ns = [] from rfl, yesT ht]
  show readNB t (opRd e0 [nm] 0) (selR [] t.s t.rows).1 = _
  rw [readNB, if_pos (by
    show [nm].all (fun n => decide (0 ≤ idx (named n) t.s.cols)) = false
    rw [List.all_cons, decide_eq_false (by omega)]
    rfl)]
theorem rowsT {t : Tb} {nm : ByteArray} (ht : tabB t = true) (hi : 0 ≤ idx (named nm) t.s.cols) : readR t (opRd e0 [nm] 0) = .ok ([nm], t.rows.map fun r => [clean (r.getD (idx (named nm) t.s.cols).toNat Val.zero)]) := by
  have hall : [nm].all (fun n => decide (0 ≤ idx (named n) t.s.cols)) = true := by rw [List.all_cons, decide_eq_true hi]; rfl
  rw [readR, if_neg (by rw [ht]; simp), readN_eq, if_neg (opRd_form (by omega) (by omega)), show (opRd e0 [nm] 0).ns = [] from rfl, yesT ht]
  show readNB t (opRd e0 [nm] 0) (selR [] t.s t.rows).1 = _
  rw [readNB, if_neg (by rw [show (opRd e0 [nm] 0).cols = [nm] from rfl, hall]; simp), allT ht]
  show Except.ok ([nm], (pickR t.s t.rows [nm]).1) = _
  rw [pickR, if_pos ⟨(tabB_iff.1 ht).1, hall, by
    rw [List.all_eq_true]
    intro r hr
    have := List.all_eq_true.1 (tabB_iff.1 ht).2.2.2 r hr
    rw [rowW, Bool.and_eq_true] at this
    exact this.1⟩]
  rfl
def sc1 (k : Int) : Sch := ⟨1, [⟨1, ⟨#[97]⟩, 1⟩, ⟨2, ⟨#[98]⟩, 3⟩, ⟨3, ⟨#[110]⟩, k⟩], 4⟩
def sc2 (k : Int) : Sch := ⟨2, [⟨1, ⟨#[122]⟩, 1⟩, ⟨2, ⟨#[98]⟩, 3⟩, ⟨3, ⟨#[110]⟩, k⟩], 4⟩
def sc3 (k : Int) : Sch := ⟨3, [⟨2, ⟨#[98]⟩, 3⟩, ⟨3, ⟨#[110]⟩, k⟩], 4⟩
def sc4 (k : Int) : Sch := ⟨4, [⟨2, ⟨#[98]⟩, 3⟩, ⟨3, ⟨#[110]⟩, k⟩, ⟨4, ⟨#[122]⟩, 1⟩], 5⟩
def tc1 (k : Int) (ys : List Int) : Tb := ⟨sc1 k, 0, [], (ys.map row2).map (· ++ [Val.zero])⟩
def tc2 (k : Int) (ys : List Int) : Tb := ⟨sc2 k, 0, [], (ys.map row2).map (· ++ [Val.zero])⟩
def tc3 (k : Int) (ys : List Int) : Tb := ⟨sc3 k, 0, [], ((ys.map row2).map (· ++ [Val.zero])).map (·.eraseIdx 0)⟩
def tc4 (k : Int) (ys : List Int) : Tb := ⟨sc4 k, 0, [], (((ys.map row2).map (· ++ [Val.zero])).map (·.eraseIdx 0)).map (· ++ [Val.zero])⟩
def opc1 (k : Int) : Opp := ⟨4, [], [], [], e0, ⟨#[110]⟩, k, no25, [], 0⟩
def opc2 : Opp := ⟨6, [], [], [], ⟨#[97]⟩, ⟨#[122]⟩, 0, no25, [], 0⟩
def opc3 : Opp := ⟨5, [], [], [], ⟨#[122]⟩, e0, 0, no25, [], 0⟩
def opc4 : Opp := ⟨4, [], [], [], e0, ⟨#[122]⟩, 1, no25, [], 0⟩
theorem cstep1 {k : Int} (hk : k = 1 ∨ k = 2 ∨ k = 3) {ys : List Int} (hl : ys.length ≤ 20) : applyP (tab2 ys) (opc1 k) = (tc1 k ys, 0) := by
  have h1 : addR sb25 ⟨#[110]⟩ k = (sc1 k, 0) := by rcases hk with rfl | rfl | rfl <;> kernel_rfl
  have hr : runP (tab2 ys) (opc1 k) = .ok (tc1 k ys) := by
    rw [runP, if_neg (by show ¬ (4 : Int) = 0; omega), if_neg (show ¬ ((opc1 k).kind = 1 ∨ (opc1 k).kind = 2) by show ¬ ((4 : Int) = 1 ∨ (4 : Int) = 2); omega), if_neg (by show ¬ (4 : Int) = 3; omega), if_pos (show (opc1 k).kind = 4 from rfl), addcP_eq]
    show (if (addR sb25 ⟨#[110]⟩ k).2 ≠ 0 then _ else Except.ok (⟨(addR sb25 ⟨#[110]⟩ k).1, 0, [], (ys.map row2).map (· ++ [Val.zero])⟩ : Tb)) = _
    rw [h1]
    rfl
  rw [applyP_run (tab2_may hl) (by show ¬ (4 : Int) < 0; omega) (by show ¬ (8 : Int) < 4; omega), hr]
theorem may1 {k : Int} (hk : k = 1 ∨ k = 2 ∨ k = 3) {ys : List Int} (hl : ys.length ≤ 20) : tabB (tc1 k ys) = true := (twice_rest (cstep1 hk hl) (by show (4 : Int) ≤ 4; omega)).2
theorem cstep2 {k : Int} (hk : k = 1 ∨ k = 2 ∨ k = 3) {ys : List Int} (hl : ys.length ≤ 20) : applyP (tc1 k ys) opc2 = (tc2 k ys, 0) := by
  have h1 : renameR (sc1 k) ⟨#[97]⟩ ⟨#[122]⟩ = (sc2 k, 0) := by rcases hk with rfl | rfl | rfl <;> kernel_rfl
  have hr : runP (tc1 k ys) opc2 = .ok (tc2 k ys) := by
    rw [runP, if_neg (by show ¬ (6 : Int) = 0; omega), if_neg (show ¬ (opc2.kind = 1 ∨ opc2.kind = 2) by show ¬ ((6 : Int) = 1 ∨ (6 : Int) = 2); omega), if_neg (by show ¬ (6 : Int) = 3; omega), if_neg (by show ¬ (6 : Int) = 4; omega), if_neg (by show ¬ (6 : Int) = 5; omega), if_pos (show opc2.kind = 6 from rfl)]
    show shapeP (tc1 k ys) (renameR (sc1 k) ⟨#[97]⟩ ⟨#[122]⟩) = _
    rw [h1]
    rfl
  rw [applyP_run (may1 hk hl) (by show ¬ (6 : Int) < 0; omega) (by show ¬ (8 : Int) < 6; omega), hr]
theorem may2 {k : Int} (hk : k = 1 ∨ k = 2 ∨ k = 3) {ys : List Int} (hl : ys.length ≤ 20) : tabB (tc2 k ys) = true := (twice_rest (cstep2 hk hl) (by show (4 : Int) ≤ 6; omega)).2
theorem cstep3 {k : Int} (hk : k = 1 ∨ k = 2 ∨ k = 3) {ys : List Int} (hl : ys.length ≤ 20) : applyP (tc2 k ys) opc3 = (tc3 k ys, 0) := by
  have h1 : dropR (sc2 k) ⟨#[122]⟩ = (sc3 k, 0) := by rcases hk with rfl | rfl | rfl <;> kernel_rfl
  have h2 : idx (named ⟨#[122]⟩) (sc2 k).cols = 0 := by rcases hk with rfl | rfl | rfl <;> kernel_rfl
  have h3 : (sc2 k).cols.findIdx (named ⟨#[122]⟩) = 0 := by rcases hk with rfl | rfl | rfl <;> kernel_rfl
  have hr : runP (tc2 k ys) opc3 = .ok (tc3 k ys) := by
    rw [runP, if_neg (by show ¬ (5 : Int) = 0; omega), if_neg (show ¬ (opc3.kind = 1 ∨ opc3.kind = 2) by show ¬ ((5 : Int) = 1 ∨ (5 : Int) = 2); omega), if_neg (by show ¬ (5 : Int) = 3; omega), if_neg (by show ¬ (5 : Int) = 4; omega), if_pos (show opc3.kind = 5 from rfl), dropP]
    rw [show (tc2 k ys).s = sc2 k from rfl, show opc3.col = ⟨#[122]⟩ from rfl, h1, h2, h3, if_neg (by omega), if_neg (by show ¬ ([] : List Fld).any _ = true; simp)]
    rfl
  rw [applyP_run (may2 hk hl) (by show ¬ (5 : Int) < 0; omega) (by show ¬ (8 : Int) < 5; omega), hr]
theorem may3 {k : Int} (hk : k = 1 ∨ k = 2 ∨ k = 3) {ys : List Int} (hl : ys.length ≤ 20) : tabB (tc3 k ys) = true := (twice_rest (cstep3 hk hl) (by show (4 : Int) ≤ 5; omega)).2
theorem cstep4 {k : Int} (hk : k = 1 ∨ k = 2 ∨ k = 3) {ys : List Int} (hl : ys.length ≤ 20) : applyP (tc3 k ys) opc4 = (tc4 k ys, 0) := by
  have h1 : addR (sc3 k) ⟨#[122]⟩ 1 = (sc4 k, 0) := by rcases hk with rfl | rfl | rfl <;> kernel_rfl
  have hr : runP (tc3 k ys) opc4 = .ok (tc4 k ys) := by
    rw [runP, if_neg (by show ¬ (4 : Int) = 0; omega), if_neg (show ¬ (opc4.kind = 1 ∨ opc4.kind = 2) by show ¬ ((4 : Int) = 1 ∨ (4 : Int) = 2); omega), if_neg (by show ¬ (4 : Int) = 3; omega), if_pos (show opc4.kind = 4 from rfl), addcP_eq]
    show (if (addR (sc3 k) ⟨#[122]⟩ 1).2 ≠ 0 then _ else Except.ok (⟨(addR (sc3 k) ⟨#[122]⟩ 1).1, 0, [], (tc3 k ys).rows.map (· ++ [Val.zero])⟩ : Tb)) = _
    rw [h1]
    rfl
  rw [applyP_run (may3 hk hl) (by show ¬ (4 : Int) < 0; omega) (by show ¬ (8 : Int) < 4; omega), hr]
theorem may4 {k : Int} (hk : k = 1 ∨ k = 2 ∨ k = 3) {ys : List Int} (hl : ys.length ≤ 20) : tabB (tc4 k ys) = true := (twice_rest (cstep4 hk hl) (by show (4 : Int) ≤ 4; omega)).2
theorem len4 (k : Int) (ys : List Int) : (tc4 k ys).rows.length = ys.length := by simp [tc4]
/-- The law's reads. -/
theorem cnulls {k : Int} (hk : k = 1 ∨ k = 2 ∨ k = 3) {ys : List Int} (hl : ys.length ≤ 20) : readT (tc1 k ys) (opRd ⟨#[110]⟩ [] 1) = (0, kv25 0) := by
  have h2 : idx (named ⟨#[110]⟩) (sc1 k).cols = 2 := by rcases hk with rfl | rfl | rfl <;> kernel_rfl
  refine countT (may1 hk hl) (by show 0 ≤ idx (named ⟨#[110]⟩) (sc1 k).cols; rw [h2]; omega) fun r hr => ?_
  show r.getD (idx (named ⟨#[110]⟩) (sc1 k).cols).toNat Val.zero = _
  rw [h2]
  obtain ⟨u, hu, rfl⟩ := List.mem_map.1 hr
  obtain ⟨x, _, rfl⟩ := List.mem_map.1 hu
  rfl
theorem cfresh {k : Int} (hk : k = 1 ∨ k = 2 ∨ k = 3) {ys : List Int} (hl : ys.length ≤ 20) : readT (tc4 k ys) (opRd ⟨#[122]⟩ [] 1) = (0, kv25 0) := by
  have h2 : idx (named ⟨#[122]⟩) (sc4 k).cols = 2 := by rcases hk with rfl | rfl | rfl <;> kernel_rfl
  refine countT (may4 hk hl) (by show 0 ≤ idx (named ⟨#[122]⟩) (sc4 k).cols; rw [h2]; omega) fun r hr => ?_
  show r.getD (idx (named ⟨#[122]⟩) (sc4 k).cols).toNat Val.zero = _
  rw [h2]
  obtain ⟨u, hu, rfl⟩ := List.mem_map.1 hr
  obtain ⟨v, hv, rfl⟩ := List.mem_map.1 hu
  obtain ⟨y, hy, rfl⟩ := List.mem_map.1 hv
  obtain ⟨x, _, rfl⟩ := List.mem_map.1 hy
  rfl
def beforeR (ys : List Int) : List (List Val) := ((ys.map row2).map (· ++ [Val.zero])).map fun r => [clean (r.getD 0 Val.zero)]
theorem cbefore {k : Int} (hk : k = 1 ∨ k = 2 ∨ k = 3) {ys : List Int} (hl : ys.length ≤ 20) : readR (tc1 k ys) (opRd e0 [⟨#[97]⟩] 0) = .ok ([⟨#[97]⟩], beforeR ys) := by
  have h2 : idx (named ⟨#[97]⟩) (sc1 k).cols = 0 := by rcases hk with rfl | rfl | rfl <;> kernel_rfl
  rw [rowsT (may1 hk hl) (by show 0 ≤ idx (named ⟨#[97]⟩) (sc1 k).cols; rw [h2]; omega)]
  show Except.ok ([(⟨#[97]⟩ : ByteArray)], ((ys.map row2).map (· ++ [Val.zero])).map fun r => [clean (r.getD (idx (named ⟨#[97]⟩) (sc1 k).cols).toNat Val.zero)]) = _
  rw [h2]
  rfl
theorem cafter {k : Int} (hk : k = 1 ∨ k = 2 ∨ k = 3) {ys : List Int} (hl : ys.length ≤ 20) : readR (tc2 k ys) (opRd e0 [⟨#[122]⟩] 0) = .ok ([⟨#[122]⟩], beforeR ys) := by
  have h2 : idx (named ⟨#[122]⟩) (sc2 k).cols = 0 := by rcases hk with rfl | rfl | rfl <;> kernel_rfl
  rw [rowsT (may2 hk hl) (by show 0 ≤ idx (named ⟨#[122]⟩) (sc2 k).cols; rw [h2]; omega)]
  show Except.ok ([(⟨#[122]⟩ : ByteArray)], ((ys.map row2).map (· ++ [Val.zero])).map fun r => [clean (r.getD (idx (named ⟨#[122]⟩) (sc2 k).cols).toNat Val.zero)]) = _
  rw [h2]
  rfl
theorem cgone {k : Int} (hk : k = 1 ∨ k = 2 ∨ k = 3) {ys : List Int} (hl : ys.length ≤ 20) : readR (tc3 k ys) (opRd e0 [⟨#[122]⟩] 0) = .error 5 := by
  have h2 : idx (named ⟨#[122]⟩) (sc3 k).cols = -1 := by rcases hk with rfl | rfl | rfl <;> kernel_rfl
  exact goneT (may3 hk hl) (by show idx (named ⟨#[122]⟩) (sc3 k).cols < 0; rw [h2]; omega)
end Go.Proofs.YtnphokhehacfnaaGreatDoor

