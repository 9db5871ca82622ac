/-
  Texts put together: Kbm, Ds, Dt.
-/
import Derived.Test.YtnphokhehacfnaaGreatDoorQz00
import Derived.Test.YtnphokhehacfnaaGreatDoorQz05
import Derived.Test.YtnphokhehacfnaaGreatDoorQz06
import Derived.Test.YtnphokhehacfnaaGreatDoorQz19
import Derived.Test.YtnphokhehacfnaaGreatDoorQz23
namespace Go.Proofs.YtnphokhehacfnaaGreatDoor
open Go.RowKit

/-- A node of a predicate that stands behind k others. -/
def shN (k : Nat) (n : Nod) : Nod := { n with l := IntKind.i64.wrap (n.l + k), r := IntKind.i64.wrap (n.r + k) }
/-- Both predicates, one behind the other, and a node that asks for both. -/
def bothN (p q : List Nod) : List Nod := p ++ q.map (shN p.length) ++ [andN ((p.length : Int) - 1) ((p.length : Int) + q.length - 1)]
/-- What stands in both lists, i of the first looked at. -/
def wantTo (a b : List Int) : Nat → List Int
  | 0 => []
  | i + 1 => wantTo a b i ++ b.filter (· == a.getD i 0)
theorem yes_mem {ns : List Nod} {s : Sch} {vss : List (List Val)} {x : Int} : ∀ {k : Nat}, x ∈ yesTo ns s vss k ↔ ∃ i : Nat, i < k ∧ x = (i : Int) ∧ (truthR ns s (vss.getD i [])).1 = 1
  | 0 => by simp [yesTo]
  | k + 1 => by
    rw [yesTo]
    split
    · rename_i h
      rw [List.mem_append, yes_mem]
      constructor
      · rintro (⟨i, h1, h2, h3⟩ | h1)
        · exact ⟨i, by omega, h2, h3⟩
        · simp at h1; exact ⟨k, by omega, h1, h⟩
      · rintro ⟨i, h1, h2, h3⟩
        by_cases e : i = k
        · subst e; exact .inr (by simp [h2])
        · exact .inl ⟨i, by omega, h2, h3⟩
    · rename_i h
      rw [yes_mem]
      constructor
      · rintro ⟨i, h1, h2, h3⟩; exact ⟨i, by omega, h2, h3⟩
      · rintro ⟨i, h1, h2, h3⟩
        by_cases e : i = k
        · subst e; exact absurd h3 h
        · exact ⟨i, by omega, h2, h3⟩
end Go.Proofs.YtnphokhehacfnaaGreatDoor
namespace Go.Proofs.YtnphokhehacfnaaGreatDoor
open Go.RowKit

/-- How many places are met ahead of i, and the others. -/
def stO (at_ : List Int) : Nat → Nat × List Int
  | 0 => (0, [])
  | i + 1 => if at_[(stO at_ i).1]? = some (i : Int) then ((stO at_ i).1 + 1, (stO at_ i).2) else ((stO at_ i).1, (stO at_ i).2 ++ [(i : Int)])
def outO (many : Int) (at_ : List Int) : List Int × Bool :=
  if many < 0 ∨ 4096 < many then ([], false) else if (stO at_ many.toNat).1 = at_.length then ((stO at_ many.toNat).2, true) else ([], false)
theorem stO_hit {at_ : List Int} {i k : Nat} {o : List Int} (h : stO at_ i = (k, o)) (hx : at_[k]? = some (i : Int)) : stO at_ (i + 1) = (k + 1, o) := by
  rw [stO, h]; simp only []; rw [if_pos hx]
theorem stO_miss {at_ : List Int} {i k : Nat} {o : List Int} (h : stO at_ i = (k, o)) (hx : at_[k]? ≠ some (i : Int)) : stO at_ (i + 1) = (k, o ++ [(i : Int)]) := by
  rw [stO, h]; simp only []; rw [if_neg hx]

end Go.Proofs.YtnphokhehacfnaaGreatDoor
namespace Go.Proofs.YtnphokhehacfnaaGreatDoor
open Go.RowKit

theorem stO_run {at_ : List Int} {n j : Nat} {o : List Int} (h : stO at_ n = (j, o)) : ∀ m, n ≤ m → (∀ i : Nat, n ≤ i → i < m → at_[j]? ≠ some (i : Int)) → stO at_ m = (j, o ++ rangeI n m)
  | 0, hm, _ => by
    obtain rfl : n = 0 := by omega
    rw [h, rangeI_self, List.append_nil]
  | m + 1, hm, hne => by
    by_cases e : n = m + 1
    · subst e; rw [h, rangeI_self, List.append_nil]
    · have ih := stO_run h m (by omega) fun i h1 h2 => hne i h1 (by omega)
      rw [stO_miss ih (hne m (by omega) (by omega)), rangeI_succ (by omega), List.append_assoc]
theorem stO_stW {M : Nat} {at_ : List Int} : ∀ j n o, j ≤ at_.length → stW (M : Int) at_ j = some (n, o) → stO at_ n = (j, o)
  | 0, n, o, _, h => by
    simp [stW] at h
    obtain ⟨rfl, rfl⟩ := h
    rfl
  | j + 1, n, o, hj, h => by
    rw [stW] at h
    cases hs : stW (M : Int) at_ j with
    | none => rw [hs] at h; simp at h
    | some s0 =>
      obtain ⟨n0, o0⟩ := s0
      rw [hs] at h
      simp only at h
      split at h
      · simp at h
      · rename_i hc
        have hx : at_[j]? = some at_[j] := List.getElem?_eq_getElem (by omega)
        have hg : at_.getD j 0 = at_[j] := by rw [List.getD_eq_getElem?_getD, hx]; rfl
        rw [hg] at h hc
        obtain ⟨xn, hxn⟩ : ∃ xn : Nat, at_[j] = (xn : Int) := ⟨at_[j].toNat, by omega⟩
        rw [hxn] at h hc hx
        simp at h
        obtain ⟨rfl, rfl⟩ := h
        have ih := stO_stW j n0 o0 (by omega) hs
        have hr := stO_run ih xn (by omega) fun i h1 h2 => by rw [hx]; simp; omega
        exact stO_hit hr hx
theorem out_without (many : Int) (at_ : List Int) : outO many at_ = ((withoutR many at_).1, (withoutR many at_).2 == 0) := by
  unfold outO withoutR
  by_cases hb : many < 0 ∨ 4096 < many
  · rw [if_pos hb, if_pos hb]; rfl
  · rw [if_neg hb, if_neg hb]
    obtain ⟨M, rfl⟩ : ∃ M : Nat, many = (M : Int) := ⟨many.toNat, by omega⟩
    have hbd := stW_bd (many := (M : Int)) (at_ := at_) ⟨by omega, by omega⟩
    rw [Int.toNat_natCast]
    cases hs : stW (M : Int) at_ at_.length with
    | some st =>
      obtain ⟨n, o⟩ := st
      have hn := (hbd _ _ hs).1
      have h1 := stO_stW _ n o (Nat.le_refl _) hs
      have h2 := stO_run h1 M (by simpa using hn) fun i _ _ => by rw [List.getElem?_eq_none (Nat.le_refl _)]; simp
      rw [h2, if_pos rfl]
      rfl
    | none =>
      -- the first place that falls
      have key : ∃ j n o x, j < at_.length ∧ stW (M : Int) at_ j = some (n, o) ∧ at_[j]? = some x ∧ (x < (n : Int) ∨ (M : Int) ≤ x) := by
        have : ∀ k, k ≤ at_.length → stW (M : Int) at_ k = none → ∃ j n o x, j < at_.length ∧ stW (M : Int) at_ j = some (n, o) ∧ at_[j]? = some x ∧ (x < (n : Int) ∨ (M : Int) ≤ x) := by
          intro k
          induction k with
          | zero => intro _ h; simp [stW] at h
          | succ k ih =>
            intro hk h
            cases hk2 : stW (M : Int) at_ k with
            | none => exact ih (by omega) hk2
            | some s0 =>
              obtain ⟨n0, o0⟩ := s0
              have hx : at_[k]? = some at_[k] := List.getElem?_eq_getElem (by omega)
              have hg : at_.getD k 0 = at_[k] := by rw [List.getD_eq_getElem?_getD, hx]; rfl
              rw [stW, hk2] at h
              simp only [hg] at h
              split at h
              · rename_i hc; exact ⟨k, n0, o0, at_[k], by omega, hk2, hx, hc⟩
              · simp at h
        exact this _ (Nat.le_refl _) hs
      obtain ⟨j, n, o, x, hj, hst, hx, hbad⟩ := key
      have hn := (hbd _ _ hst).1
      have h1 := stO_stW j n o (by omega) hst
      have h2 := stO_run h1 M (by simpa using hn) fun i h1 h2 => by rw [hx]; simp; omega
      rw [h2, if_neg (by simp only []; omega)]
      rfl
end Go.Proofs.YtnphokhehacfnaaGreatDoor
namespace Go.Proofs.YtnphokhehacfnaaGreatDoor
open Go.RowKit

/-- The places ahead of k whose truth is not yes. -/
def noTo (ns : List Nod) (s : Sch) (vss : List (List Val)) : Nat → List Int
  | 0 => []
  | k + 1 => if (truthR ns s (vss.getD k [])).1 = 1 then noTo ns s vss k else noTo ns s vss k ++ [(k : Int)]
theorem yes_no_perm (ns : List Nod) (s : Sch) (vss : List (List Val)) : ∀ k, (yesTo ns s vss k ++ noTo ns s vss k).Perm (rangeI 0 k)
  | 0 => List.Perm.refl _
  | k + 1 => by
    have ih := yes_no_perm ns s vss k
    rw [yesTo, noTo, rangeI_succ (Nat.zero_le _)]
    split
    · rw [List.append_assoc]
      refine List.Perm.trans (List.Perm.append_left _ List.perm_append_comm) ?_
      rw [← List.append_assoc]
      exact List.Perm.append_right _ ih
    · rw [← List.append_assoc]
      exact List.Perm.append_right _ ih
theorem yes_pre (ns : List Nod) (s : Sch) (vss : List (List Val)) (k : Nat) : ∀ d, ∃ r, yesTo ns s vss (k + d) = yesTo ns s vss k ++ r ∧ ∀ x ∈ r, (k : Int) ≤ x
  | 0 => ⟨[], by simp, by simp⟩
  | d + 1 => by
    obtain ⟨r, h1, h2⟩ := yes_pre ns s vss k d
    rw [show k + (d + 1) = (k + d) + 1 by omega, yesTo]
    split
    · refine ⟨r ++ [((k + d : Nat) : Int)], by rw [h1, List.append_assoc], fun x hx => ?_⟩
      rcases List.mem_append.1 hx with hx | hx
      · exact h2 x hx
      · simp at hx; omega
    · exact ⟨r, h1, h2⟩
theorem stO_yes (ns : List Nod) (s : Sch) (vss : List (List Val)) (n : Nat) : ∀ i, i ≤ n → stO (yesTo ns s vss n) i = ((yesTo ns s vss i).length, noTo ns s vss i)
  | 0, _ => rfl
  | i + 1, hi => by
    have ih := stO_yes ns s vss n i (by omega)
    by_cases h : (truthR ns s (vss.getD i [])).1 = 1
    · obtain ⟨r, h1, _⟩ := yes_pre ns s vss (i + 1) (n - (i + 1))
      rw [show i + 1 + (n - (i + 1)) = n by omega] at h1
      have e : yesTo ns s vss (i + 1) = yesTo ns s vss i ++ [(i : Int)] := by rw [yesTo, if_pos h]
      have hx : (yesTo ns s vss n)[(yesTo ns s vss i).length]? = some (i : Int) := by
        rw [h1, e, List.append_assoc, List.getElem?_append_right (Nat.le_refl _)]
        simp
      rw [stO_hit ih hx, e, noTo, if_pos h, List.length_append]
      rfl
    · obtain ⟨r, h1, h2⟩ := yes_pre ns s vss (i + 1) (n - (i + 1))
      rw [show i + 1 + (n - (i + 1)) = n by omega] at h1
      have e : yesTo ns s vss (i + 1) = yesTo ns s vss i := by rw [yesTo, if_neg h]
      have hx : (yesTo ns s vss n)[(yesTo ns s vss i).length]? ≠ some (i : Int) := by
        rw [h1, e, List.getElem?_append_right (Nat.le_refl _), Nat.sub_self]
        intro hr
        have := h2 _ (List.mem_of_getElem? hr)
        omega
      rw [stO_miss ih hx, e, noTo, if_neg h]
/-- The places that a predicate does not take. -/
theorem without_yes (ns : List Nod) (s : Sch) (vss : List (List Val)) (n : Nat) (hn : n ≤ 4096) : withoutR (n : Int) (yesTo ns s vss n) = (noTo ns s vss n, 0) := by
  have h := out_without (n : Int) (yesTo ns s vss n)
  have h2 : outO (n : Int) (yesTo ns s vss n) = (noTo ns s vss n, true) := by
    rw [outO, if_neg (by omega), Int.toNat_natCast, stO_yes ns s vss n n (Nat.le_refl _), if_pos rfl]
  rw [h2] at h
  injection h with e1 e2
  refine Prod.ext e1.symm ?_
  simpa using e2.symm
theorem take_ok {n : Nat} {l : List Int} (h : ∀ x ∈ l, 0 ≤ x ∧ x < (n : Int)) : takeOk n l l.length = true := by
  unfold takeOk
  rw [List.take_length, List.all_eq_true]
  intro x hx
  have := h x hx
  simp
  omega
theorem range_mem (x : Int) : ∀ n, x ∈ rangeI 0 n ↔ 0 ≤ x ∧ x < (n : Int)
  | 0 => by simp [rangeI]
  | n + 1 => by
    rw [rangeI_succ (Nat.zero_le _), List.mem_append, range_mem x n]
    simp
    omega
end Go.Proofs.YtnphokhehacfnaaGreatDoor

namespace Go.Proofs.YtnphokhehacfnaaGreatDoor
open Go.RowKit

def yesV (ns : List Nod) (s : Sch) (vs : List Val) : Bool := (truthR ns s vs).1 == 1
theorem getD_at {vss : List (List Val)} {k : Nat} (h : k < vss.length) : vss[k]? = some (vss.getD k []) := by
  rw [List.getD_eq_getElem?_getD, List.getElem?_eq_getElem h]
  rfl
theorem yes_filter (ns : List Nod) (s : Sch) (vss : List (List Val)) : ∀ k, k ≤ vss.length → (yesTo ns s vss k).map (fun x => vss.getD x.toNat []) = (vss.take k).filter (yesV ns s)
  | 0, _ => rfl
  | k + 1, h => by
    rw [yesTo, List.take_add_one, getD_at (by omega), Option.toList_some, List.filter_append]
    have ih := yes_filter ns s vss k (by omega)
    by_cases hy : (truthR ns s (vss.getD k [])).1 = 1
    · rw [if_pos hy, List.map_append, ih, List.filter_cons, if_pos (by rw [yesV, hy]; rfl)]
      simp
    · rw [if_neg hy, ih, List.filter_cons, if_neg (by rw [yesV, beq_iff_eq]; exact hy)]
      simp
theorem no_filter (ns : List Nod) (s : Sch) (vss : List (List Val)) : ∀ k, k ≤ vss.length → (noTo ns s vss k).map (fun x => vss.getD x.toNat []) = (vss.take k).filter (fun vs => !yesV ns s vs)
  | 0, _ => rfl
  | k + 1, h => by
    rw [noTo, List.take_add_one, getD_at (by omega), Option.toList_some, List.filter_append]
    have ih := no_filter ns s vss k (by omega)
    by_cases hy : (truthR ns s (vss.getD k [])).1 = 1
    · rw [if_pos hy, ih, List.filter_cons, if_neg (by rw [yesV, hy]; simp)]
      simp
    · rw [if_neg hy, List.map_append, ih, List.filter_cons, if_pos (by rw [yesV, beq_eq_false_iff_ne.2 hy]; rfl)]
      simp
theorem yes_bds (ns : List Nod) (s : Sch) (vss : List (List Val)) (k : Nat) : ∀ x ∈ yesTo ns s vss k, 0 ≤ x ∧ x < (k : Int) := by
  intro x hx
  obtain ⟨i, hi, rfl, _⟩ := yes_mem.1 hx
  omega
theorem no_bds (ns : List Nod) (s : Sch) (vss : List (List Val)) (k : Nat) : ∀ x ∈ noTo ns s vss k, 0 ≤ x ∧ x < (k : Int) := by
  intro x hx
  have := (yes_no_perm ns s vss k).mem_iff.1 (List.mem_append_right _ hx)
  exact (range_mem x k).1 this
theorem take_of {vss : List (List Val)} {l : List Int} (h : ∀ x ∈ l, 0 ≤ x ∧ x < (vss.length : Int)) : (takeR vss l).1 = (l.map fun x => vss.getD x.toNat []).map (List.map clean) := by
  rw [takeR, if_pos (take_ok h)]
  simp [takeTo]
/-- A table of numbers. -/
def row2 (x : Int) : List Val := [kv25 x, Val.zero]
def tab2 (ys : List Int) : Tb := ⟨sb25, 0, [], ys.map row2⟩
theorem row2_clean (x : Int) : (row2 x).map clean = row2 x := rfl
theorem row2_may (x : Int) : rowW sb25.cols (row2 x) = true := by
  unfold rowW
  rw [Bool.and_eq_true]
  refine ⟨rfl, wholeUpto_iff.2 fun i hi c v hc hv => ?_⟩
  match i with
  | 0 => cases hc; cases hv; exact kv_whole x
  | 1 => cases hc; cases hv; exact zero_whole3
  | n + 2 => exact absurd hi (by show ¬ n + 2 < 2; omega)
theorem tab2_may {ys : List Int} (h : ys.length ≤ 20) : tabB (tab2 ys) = true := by
  rw [tabB_iff]
  refine ⟨fil_1, fil_3, by simp [tab2]; omega, ?_⟩
  rw [List.all_eq_true]
  intro vs hvs
  obtain ⟨x, _, rfl⟩ := List.mem_map.1 hvs
  exact row2_may x
theorem row2_ok (x : Int) : rowB sb25 (row2 x) = true := by kernel_rfl
theorem rows2_ok (ys : List Int) (k : Nat) : rowsOk sb25 (ys.map row2) k = true := by
  unfold rowsOk
  rw [List.all_eq_true]
  intro vs hvs
  obtain ⟨x, _, rfl⟩ := List.mem_map.1 (List.mem_of_mem_take hvs)
  exact row2_ok x
def yesN (ns : List Nod) (x : Int) : Bool := yesV ns sb25 (row2 x)
theorem sel2 {ns : List Nod} {ys : List Int} (hc : checkE ns sb25 = 0) : selR ns sb25 (ys.map row2) = (yesTo ns sb25 (ys.map row2) (ys.map row2).length, 0) := by
  rw [selR, if_neg (by omega), if_pos (rows2_ok ys _)]
theorem filt2 (p : List Val → Bool) (ys : List Int) : (ys.map row2).filter p = (ys.filter fun x => p (row2 x)).map row2 := by
  rw [List.filter_map]
  rfl
theorem clean2 (ys : List Int) : (ys.map row2).map (List.map clean) = ys.map row2 := by
  rw [List.map_map]
  exact List.map_congr_left fun x _ => row2_clean x
theorem taken2 {ns : List Nod} {ys : List Int} (hc : checkE ns sb25 = 0) : (takeR (ys.map row2) (selR ns sb25 (ys.map row2)).1).1 = (ys.filter (yesN ns)).map row2 := by
  rw [sel2 hc]
  rw [take_of (yes_bds ns sb25 (ys.map row2) _), yes_filter _ _ _ _ (Nat.le_refl _), List.take_length, filt2, clean2]
  rfl
theorem left2 {ns : List Nod} {ys : List Int} (hc : checkE ns sb25 = 0) (hl : ys.length ≤ 20) : (takeR (ys.map row2) (withoutR ((ys.map row2).length : Int) (selR ns sb25 (ys.map row2)).1).1).1 = (ys.filter fun x => !yesN ns x).map row2 := by
  rw [sel2 hc]
  rw [without_yes _ _ _ _ (by rw [List.length_map]; omega)]
  rw [take_of (no_bds ns sb25 (ys.map row2) _), no_filter _ _ _ _ (Nat.le_refl _), List.take_length, filt2, clean2]
  rfl
theorem nulls2 (ys : List Int) : nullsP ((ys.map kv25).map clean) = 0 := by
  unfold nullsP
  rw [List.countP_eq_zero]
  intro v hv
  obtain ⟨u, hu, rfl⟩ := List.mem_map.1 hv
  obtain ⟨x, _, rfl⟩ := List.mem_map.1 hu
  rw [kv_clean, show kindV (kv25 x) = 1 from rfl]
  decide
/-- A count of the numbers that a predicate takes. -/
def opCount (ns : List Nod) : Opp := ⟨9, [], [], ns, ⟨#[97]⟩, ⟨#[]⟩, 0, ⟨0, 0, false, ⟨#[]⟩⟩, [], 1⟩
def opDel (ns : List Nod) : Opp := ⟨1, [], [], ns, ⟨#[]⟩, ⟨#[]⟩, 0, ⟨0, 0, false, ⟨#[]⟩⟩, [], 0⟩
theorem count2 {ns : List Nod} {ys : List Int} (hp : predB ns = true) (hc : checkE ns sb25 = 0) (hl : ys.length ≤ 20) : readT (tab2 ys) (opCount ns) = (0, kv25 ((ys.filter (yesN ns)).length : Int)) := by
  have ht := tab2_may hl
  have hr : readA (tab2 ys) (opCount ns) = .ok (kv25 ((ys.filter (yesN ns)).length : Int)) := by
    rw [read_eq, if_neg (by
      rintro (h | h | h | h)
      · exact h rfl
      · rw [show (opCount ns).ns = ns from rfl, hp] at h; cases h
      · exact absurd h (by show ¬ (1 : Int) < 0; omega)
      · exact absurd h (by show ¬ (4 : Int) < 1; omega))]
    rw [show yesP (tab2 ys) (opCount ns).ns = .ok (selR ns sb25 (ys.map row2)).1 by rw [yesP, if_neg (show ¬ checkE (opCount ns).ns (tab2 ys).s ≠ 0 from fun h => h hc)]; rfl]
    show readB (tab2 ys) (opCount ns) (selR ns sb25 (ys.map row2)).1 = _
    rw [readB, if_neg (by show ¬ ([] : List ByteArray).all _ = false; simp), if_neg (by show ¬ idx (named ⟨#[97]⟩) sb25.cols < 0; decide +kernel)]
    rw [show (tab2 ys).rows = ys.map row2 from rfl, taken2 hc]
    rw [show ((ys.filter (yesN ns)).map row2).map (pickC (idx (named (opCount ns).col) (tab2 ys).s.cols).toNat) = (ys.filter (yesN ns)).map kv25 by
      rw [List.map_map]
      refine List.map_congr_left fun x _ => ?_
      show pickC (idx (named ⟨#[97]⟩) sb25.cols).toNat (row2 x) = kv25 x
      rw [show (idx (named ⟨#[97]⟩) sb25.cols).toNat = 0 by decide +kernel]
      rfl]
    rw [readC]
    have ha : aggP (opCount ns).agg ((ys.filter (yesN ns)).map kv25) = (⟨1, ((ys.filter (yesN ns)).length : Int), false, .empty⟩, 0) := by
      rw [aggP, if_neg (by show ¬ (1 : Int) = 0; omega), if_pos (by rfl), nulls2]
      simp
    rw [ha]
    rfl
  rw [readT, if_neg (by rw [ht]; simp), hr]
theorem del2 {ns : List Nod} {ys : List Int} (hp : predB ns = true) (hc : checkE ns sb25 = 0) (hl : ys.length ≤ 20) : applyP (tab2 ys) (opDel ns) = (tab2 (ys.filter fun x => !yesN ns x), 0) := by
  have ht := tab2_may hl
  have hr : runP (tab2 ys) (opDel ns) = .ok (tab2 (ys.filter fun x => !yesN ns x)) := by
    rw [runP, if_neg (by show ¬ (1 : Int) = 0; omega), if_pos (show (opDel ns).kind = 1 ∨ (opDel ns).kind = 2 from Or.inl rfl), takeP, if_neg (by rw [show (opDel ns).ns = ns from rfl, hp]; simp)]
    rw [show yesP (tab2 ys) (opDel ns).ns = .ok (selR ns sb25 (ys.map row2)).1 by rw [yesP, if_neg (show ¬ checkE (opDel ns).ns (tab2 ys).s ≠ 0 from fun h => h hc)]; rfl]
    show Except.ok (⟨sb25, 0, [], (takeR (ys.map row2) (withoutR ((ys.map row2).length : Int) (selR ns sb25 (ys.map row2)).1).1).1⟩ : Tb) = _
    rw [left2 hc hl]
    rfl
  rw [applyP_run ht (by show ¬ (1 : Int) < 0; omega) (by show ¬ (8 : Int) < 1; omega), hr]
theorem filt_len (p : Int → Bool) (ys : List Int) : (ys.filter fun x => !p x).length = ys.length - (ys.filter p).length := by
  induction ys with
  | nil => rfl
  | cons x r ih =>
    have := List.length_filter_le p r
    cases h : p x <;> simp [h, ih] <;> omega
theorem filt_none (p : Int → Bool) (ys : List Int) : ((ys.filter fun x => !p x).filter p).length = 0 := by
  rw [List.length_eq_zero_iff, List.filter_eq_nil_iff]
  intro x hx
  have := (List.mem_filter.1 hx).2
  simpa using this
theorem none_pred : predB [] = true := by kernel_rfl
theorem none_check : checkE [] sb25 = 0 := by kernel_rfl
theorem none_yes (x : Int) : yesN [] x = true := by
  unfold yesN yesV truthR
  rw [none_check, if_neg (by simp), if_pos (row2_ok x)]
  rfl
def cmpN (k v : Int) : Nod := ⟨1, ⟨#[97]⟩, k, kv25 v, 0, 0⟩
theorem cmp_pred {k v : Int} (h0 : 0 ≤ k) (h5 : k ≤ 5) : predB [cmpN k v] = true := by
  unfold predB nodsUpto nodsUpto
  show (_ && (_ && nodB (cmpN k v) 0)) = true
  unfold nodB
  rw [if_neg (by show ¬ ((1 : Int) = 0 ∨ (1 : Int) = 2); omega), if_pos (by rfl)]
  show (_ && (_ && (decide (0 ≤ k) && decide (k ≤ 5) && _ && _))) = true
  rw [decide_eq_true h0, decide_eq_true h5]
  rfl
theorem cmp_check {k v : Int} (h0 : 0 ≤ k) (h5 : k ≤ 5) : checkE [cmpN k v] sb25 = 0 := by
  rw [checkE, if_pos ⟨cmp_pred h0 h5, fil_1⟩]
  show (if nodE sb25 (cmpN k v) ≠ 0 then _ else _) = _
  rw [show nodE sb25 (cmpN k v) = 0 by kernel_rfl]
  rfl
end Go.Proofs.YtnphokhehacfnaaGreatDoor

namespace Go.Proofs.YtnphokhehacfnaaGreatDoor
open Go.RowKit

set_option maxRecDepth 100000 in
set_option maxHeartbeats 4000000 in
theorem cmp25_any (c v : Int) (w : World) :
    Calls Tryz.prog 37 #[.int .i64 c, .int .i64 v] w fun e w' => ∃ b : Nat, e = .returned (.agg #[.slice (some ⟨b, 0, none⟩) 1 1]) ∧ Blk w' b 77 [.int .i64 1, .string ⟨#[97]⟩, .int .i64 c, .int .i64 1, .int .i64 v, .bool false, .string ⟨#[]⟩, .int .i64 0, .int .i64 0] ∧ Step w w' := by
  obtain ⟨Wf, hWf⟩ : ∃ x : World, x = (w.alloc (.cells #[.slice (some ⟨w.heap.size + 1, 0, none⟩) 1 1] 34)).alloc (.cells #[.int .i64 1, .string ⟨#[97]⟩, .int .i64 c, .int .i64 1, .int .i64 v, .bool false, .string ⟨#[]⟩, .int .i64 0, .int .i64 0] 77) := ⟨_, rfl⟩
  have HPf : Hid (Blk Wf w.heap.size 34 [.slice (some ⟨w.heap.size + 1, 0, none⟩) 1 1]) := by rw [hWf]; exact (Blk.new w _ 34).alloc _
  have HNf : Hid (Blk Wf (w.heap.size + 1) 77 [.int .i64 1, .string ⟨#[97]⟩, .int .i64 c, .int .i64 1, .int .i64 v, .bool false, .string ⟨#[]⟩, .int .i64 0, .int .i64 0]) := by rw [hWf]; exact Blk.new_at (by simp) _ 77
  have SF : Step w Wf := by rw [hWf]; exact Step.of
  go_enter Tryz.func37, Tryz.ntmps37
  go_wp2_with fail
  rw [← hWf]
  have hp0 := At.z1 HPf.out.at0
  refine bodyPost_ret (v := .agg #[.slice (some ⟨w.heap.size + 1, 0, none⟩) 1 1]) (by simp [results, Tryz.results37, go_sem, hp0]) rfl ?_
  exact ⟨w.heap.size + 1, rfl, HNf.out, SF⟩
theorem pr_cmp {w : World} {b : Nat} {c v : Int} (h : Blk w b 77 [.int .i64 1, .string ⟨#[97]⟩, .int .i64 c, .int .i64 1, .int .i64 v, .bool false, .string ⟨#[]⟩, .int .i64 0, .int .i64 0]) : PrIn w [cmpN c v] (some ⟨b, 0, none⟩) 1 :=
  ⟨Nat.le_refl _, by decide, (by decide : 1 ≤ 1599289640400), SlAt.of_blk25 h rfl (fun x hx => by simp at hx; subst hx; rfl), fun n hn => by simp at hn; subst hn; exact ⟨(by decide : (1 : Nat) ≤ 9223372036854775807), (by decide : (0 : Nat) ≤ 9223372036854775807)⟩⟩
set_option maxRecDepth 100000 in
set_option maxHeartbeats 4000000 in
theorem total_any {w0 w1 : World} (t : TbA) (ns : List Nod) (An : Option Addr) (cn : Nat) (w : World) (hin : TbIn w0 t) (hp : PrIn w1 ns An cn) [f0 : Fut w0 w] [f1 : Fut w1 w] (hfine : ∀ vs ∈ t.tb.rows, ∀ v ∈ vs, FineD v) :
    Calls Tryz.prog 36 #[.agg #[.int .i64 t.s.id, .slice t.As t.s.cols.length t.cs, .int .i64 t.s.next, .int .i64 t.sid, .slice t.Af t.fs.length t.cf, .slice t.Ar t.rs.length t.cr], .agg #[.slice An ns.length cn]] w fun e w' => e = .returned (.int .i64 (readT t.tb (opCount ns)).2.i) ∧ Step w w' := by
  have hfd : ∀ (a b c d : Value) (w : World), (Instr.field 36 (.agg #[a, b, c, d]) 1).run Tryz.prog w = .ok b w := fun _ _ _ _ _ => by kernel_rfl
  have hf7 : ∀ (a b c d e f g : Value) (w : World), (Instr.field 59 (.agg #[a, b, c, d, e, f, g]) 3).run Tryz.prog w = .ok (.agg #[d, e, f, g]) w := fun _ _ _ _ _ _ _ _ => by kernel_rfl
  obtain ⟨W1, hW1⟩ : ∃ x : World, x = (w.alloc (.cells #[.int .i64 t.s.id, .slice t.As t.s.cols.length t.cs, .int .i64 t.s.next, .int .i64 t.sid, .slice t.Af t.fs.length t.cf, .slice t.Ar t.rs.length t.cr] 30)).alloc (.cells #[.slice An ns.length cn] 34) := ⟨_, rfl⟩
  have SW1 : Step w W1 := by rw [hW1]; exact Step.of
  have HT : Hid (Blk W1 w.heap.size 30 [.int .i64 t.s.id, .slice t.As t.s.cols.length t.cs, .int .i64 t.s.next, .int .i64 t.sid, .slice t.Af t.fs.length t.cf, .slice t.Ar t.rs.length t.cr]) := by rw [hW1]; exact (Blk.new w _ 30).alloc _
  have HP : Hid (Blk W1 (w.heap.size + 1) 34 [.slice An ns.length cn]) := by rw [hW1]; exact Blk.new_at (by simp) _ 34
  obtain ⟨t0, t1, t2, t3, t4, t5⟩ := At.z6 HT.out.at0
  have lt_ := HT.out.lt
  have p0 := At.z1 HP.out.at0
  have lp := HP.out.lt
  obtain ⟨R, hR⟩ : ∃ R, readT t.tb (opCount ns) = R := ⟨_, rfl⟩
  have RD1 : Hid (Calls Tryz.prog 32 #[.agg #[.int .i64 t.s.id, .slice t.As t.s.cols.length t.cs, .int .i64 t.s.next, .int .i64 t.sid, .slice t.Af t.fs.length t.cf, .slice t.Ar t.rs.length t.cr], .agg #[.int .i64 9, .string ⟨#[]⟩, .slice none 0 0, .slice none 0 0, .slice An ns.length cn, .string ⟨#[97]⟩, .string ⟨#[]⟩, .int .i64 0, .int .i64 0, .int .i64 0, .bool false, .string ⟨#[]⟩, .slice none 0 0, .int .i64 0, .int .i64 0, .int .i64 1]] W1 fun e w' => e = .returned (.agg #[.int .i64 R.1, .slice none 0 0, .slice none 0 0, .int .i64 R.2.kind, .int .i64 R.2.i, .bool R.2.b, .string R.2.s]) ∧ Step W1 w') := by
    haveI f2 : Fut w0 W1 := Fut.tr f0 (Fut.mk' (fut w W1))
    haveI f3 : Fut w1 W1 := Fut.tr f1 (Fut.mk' (fut w W1))
    have := readAgg (w0 := w0) (w1 := W1) t ⟨9, ⟨#[]⟩, [], none, 0, [], none, 0, ns, An, cn, ⟨#[97]⟩, ⟨#[]⟩, 0, ⟨0, 0, false, ⟨#[]⟩⟩, [], none, 0, 0, 0, 1⟩ W1 hin ⟨SlAt.nil_, Nat.zero_le _, Nat.le_refl _, RowsIn.none_ _, fun r h => by simp at h, hp.fut, FsIn.none_ _, Nat.zero_le _, FineD.zero, (by show 0 ≤ 9223372036854775807; decide)⟩ (by show (1 : Int) ≠ 0; decide) hfine
    rw [← hR]
    exact this
  rw [hR]
  clear hR
  go_enter Tryz.func36, Tryz.ntmps36
  go_upto_region 1 with fail
  rw [← hW1]
  clear hW1
  go_wp2_with (go_at_call 32; (with_reducible refine RD1.out.mono ?_); rintro e w7 ⟨rfl, hs7⟩)
  go_ret
  exact ⟨rfl, Step.of⟩
end Go.Proofs.YtnphokhehacfnaaGreatDoor

