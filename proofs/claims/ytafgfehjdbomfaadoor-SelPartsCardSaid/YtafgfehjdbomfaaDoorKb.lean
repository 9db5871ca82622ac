/-
  Gh, Gi, Kb: texts put together.
-/
import Derived.Test.YtafgfehjdbomfaaDoorPn
import Derived.Test.YtafgfehjdbomfaaDoorBase
import Derived.Test.YtafgfehjdbomfaaDoorGb
import Derived.Test.YtafgfehjdbomfaaDoorKa
import Derived.Test.YtafgfehjdbomfaaDoorGe
import Derived.Test.YtafgfehjdbomfaaDoorCv
namespace Go.Proofs.YtafgfehjdbomfaaDoor
open Go.RowKit

/-- How many places are met ahead of i, and the others. -/
def stO (at_ : List Int) : Nat → Nat × List Int
  | 0 => (0, [])
  | i + 1 => if at_[(stO at_ i).1]? = some (i : Int) then ((stO at_ i).1 + 1, (stO at_ i).2) else ((stO at_ i).1, (stO at_ i).2 ++ [(i : Int)])
def outO (many : Int) (at_ : List Int) : List Int × Bool :=
  if many < 0 ∨ 4096 < many then ([], false) else if (stO at_ many.toNat).1 = at_.length then ((stO at_ many.toNat).2, true) else ([], false)
theorem stO_hit {at_ : List Int} {i k : Nat} {o : List Int} (h : stO at_ i = (k, o)) (hx : at_[k]? = some (i : Int)) : stO at_ (i + 1) = (k + 1, o) := by
  rw [stO, h]; simp only []; rw [if_pos hx]
theorem stO_miss {at_ : List Int} {i k : Nat} {o : List Int} (h : stO at_ i = (k, o)) (hx : at_[k]? ≠ some (i : Int)) : stO at_ (i + 1) = (k, o ++ [(i : Int)]) := by
  rw [stO, h]; simp only []; rw [if_neg hx]

set_option maxRecDepth 100000 in
set_option maxHeartbeats 16000000 in
theorem rwithout_any {w0 : World} (many : Int) (at_ : List Int) (Aa : Option Addr) (ca : Nat) (w : World) (ha : SlAt w0 w0.heap.size 1 Aa (intCells at_)) [f0 : Fut w0 w] (hal : at_.length ≤ 4611686018427387904) :
    Calls Tryd.prog 16 #[.int .i64 many, .slice Aa at_.length ca] w fun e w' => ∃ (A' : Option Addr) (c' : Nat), e = .returned (.tuple #[.slice A' (outO many at_).1.length c', .bool (outO many at_).2]) ∧ Own w' w.heap.size 3 1 (.slice A' (outO many at_).1.length c') (intCells (outO many at_).1) ∧ Step w w' := by
  have z0 := f0.below.size
  obtain ⟨T, hT⟩ : ∃ T, outO many at_ = T := ⟨_, rfl⟩
  have HT := hide hT
  rw [hT]
  clear hT
  by_cases h0 : many < 0
  · have hE : Hid (T = ([], false)) := by show _ = _; rw [← HT.out, outO, if_pos (.inl h0)]
    go_enter Tryd.func16, Tryd.ntmps16
    go_wp2_with fail
    go_ret2
    exact ⟨none, 0, by rw [hE.out]; rfl, by rw [hE.out]; exact Own.nil_ _ _ _ _, Step.of⟩
  · by_cases h1 : 4096 < many
    · have hE : Hid (T = ([], false)) := by show _ = _; rw [← HT.out, outO, if_pos (.inr h1)]
      go_enter Tryd.func16, Tryd.ntmps16
      go_wp2_with fail
      go_ret2
      exact ⟨none, 0, by rw [hE.out]; rfl, by rw [hE.out]; exact Own.nil_ _ _ _ _, Step.of⟩
    · obtain ⟨M, rfl⟩ : ∃ M : Nat, many = (M : Int) := ⟨many.toNat, by omega⟩
      have hM : M ≤ 4096 := by omega
      have HNB : Hid (¬ ((M : Int) < 0 ∨ 4096 < (M : Int))) := by show ¬ _; omega
      go_enter Tryd.func16, Tryd.ntmps16
      go_wp2_with fail
      clear h0 h1
      go_loopw [6, 7, 8] (fun out kk ii wr => ∃ (i k m : Nat) (A' : Option Addr) (c' : Nat) (o : List Int), i ≤ M ∧ ii = .int .i64 i ∧ Hid (stO at_ i = (k, o)) ∧ k ≤ at_.length ∧ kk = .int .i64 k ∧ out = .slice A' m c' ∧ Hid (o.length = m) ∧ m ≤ i ∧ Own wr w.heap.size 3 1 (.slice A' m c') (intCells o) ∧ Step w wr) (fun _ _ ii _ => M - (intOf ii).toNat)
      case atStart => exact ⟨0, 0, 0, none, 0, [], Nat.zero_le _, rfl, rfl, Nat.zero_le _, rfl, rfl, rfl, Nat.le_refl _, Own.nil_ _ _ _ _, Step.of⟩
      case round =>
        obtain ⟨i, k, m, A', c', o, hi, rfl, HS, hk, rfl, rfl, HM, hmi, hown, hst⟩ := hrel
        have HO := hide hown; clear hown
        obtain ⟨wo, rfl⟩ : ∃ x : World, x = wr := ⟨_, rfl⟩
        have hzo := hst.size
        by_cases hlt : i < M
        · have hiM : (i : Int) < (M : Int) := by omega
          by_cases hka : k < at_.length
          · obtain ⟨b, off, rfl, hb, hc⟩ := ha.elem (w' := wo) inferInstance (k := k) (by rw [intCells_len]; exact hka)
            obtain ⟨x, hx⟩ : ∃ x, at_[k]? = some x := ⟨_, List.getElem?_eq_getElem hka⟩
            have x0 := At.l1 (hc k [.int .i64 x] (by simp [intCells, hx]))
            simp only [Nat.mul_one] at x0
            have hlb : b < wo.heap.size := by omega
            have hkl : (k : Int) < (at_.length : Int) := by omega
            have hk0 : (0 : Int) ≤ (k : Int) := by omega
            have HX := hide hx
            clear hc hx
            by_cases hxi : x = (i : Int)
            · subst hxi
              have HYES := hide (stO_hit HS.out HX.out)
              go_wp2_with fail
              go_roundw
              case rel => exact ⟨i + 1, k + 1, m, A', c', o, by omega, by go_num, HYES, by omega, by go_num, rfl, HM, by omega, HO.out, Step.of⟩
              case measure => simp [intOf]; omega
            · have HNO := hide (stO_miss HS.out (by rw [HX.out]; simpa using hxi))
              have exi : (x == (i : Int)) = false := by simpa using hxi
              clear hxi
              have HNew := hide (SlAt.one wo 1 [.int .i64 (i : Int)] 3)
              have HOw := hide (HO.out.alloc (.cells #[.int .i64 (i : Int)] 3))
              go_wp2_with (at_builtin; go_loud (refine wpList_append_sl rfl (.tmp 34) (.tmp 36) 29 rfl eiInt (base := w.heap.size) (xs := intCells o) rfl HOw.out (int_fit _) (ys := [[.int .i64 (i : Int)]]) rfl (by simp) HNew.out (int_fit [(i : Int)]) (by rw [intCells_len, HM.out]; show (m + 1) * 8 ≤ _; omega) (fut w (wo.alloc (.cells #[.int .i64 (i : Int)] 3))).size (N := m + 1) (by rw [intCells_len, HM.out]; rfl) ?_; intro A5 c5 w5 hq5 hq6 hown5 hgr5 hbel5; have H5 := hide hown5; have HB5 := hide hbel5; clear hown5 hgr5 hbel5))
              go_roundw
              case rel =>
                refine ⟨i + 1, k, m + 1, A5, c5, o ++ [(i : Int)], by omega, by go_num, HNO, hk, rfl, rfl, ?_, by omega, ?_, ⟨(fut w (wo.alloc (.cells #[.int .i64 (i : Int)] 3))).trans HB5.out⟩⟩
                · show _ = _
                  rw [List.length_append, HM.out]; rfl
                · have := H5.out
                  simpa [intCells] using this
              case measure => simp [intOf]; omega
          · have hkl : ¬ (k : Int) < (at_.length : Int) := by omega
            have HNO := hide (stO_miss HS.out (by rw [List.getElem?_eq_none (by omega)]; simp))
            have HNew := hide (SlAt.one wo 1 [.int .i64 (i : Int)] 3)
            have HOw := hide (HO.out.alloc (.cells #[.int .i64 (i : Int)] 3))
            go_wp2_with (at_builtin; go_loud (refine wpList_append_sl rfl (.tmp 34) (.tmp 36) 29 rfl eiInt (base := w.heap.size) (xs := intCells o) rfl HOw.out (int_fit _) (ys := [[.int .i64 (i : Int)]]) rfl (by simp) HNew.out (int_fit [(i : Int)]) (by rw [intCells_len, HM.out]; show (m + 1) * 8 ≤ _; omega) (fut w (wo.alloc (.cells #[.int .i64 (i : Int)] 3))).size (N := m + 1) (by rw [intCells_len, HM.out]; rfl) ?_; intro A5 c5 w5 hq5 hq6 hown5 hgr5 hbel5; have H5 := hide hown5; have HB5 := hide hbel5; clear hown5 hgr5 hbel5))
            go_roundw
            case rel =>
              refine ⟨i + 1, k, m + 1, A5, c5, o ++ [(i : Int)], by omega, by go_num, HNO, hk, rfl, rfl, ?_, by omega, ?_, ⟨(fut w (wo.alloc (.cells #[.int .i64 (i : Int)] 3))).trans HB5.out⟩⟩
              · show _ = _
                rw [List.length_append, HM.out]; rfl
              · have := H5.out
                simpa [intCells] using this
            case measure => simp [intOf]; omega
        · obtain rfl : i = M := by omega
          have hiM : ¬ (i : Int) < (i : Int) := by omega
          by_cases hka : k = at_.length
          · have hE : Hid (T = (o, true)) := by show _ = _; rw [← HT.out, outO, if_neg HNB.out, Int.toNat_natCast, HS.out]; simp only []; rw [if_pos hka]
            have eka : ((k : Int) != (at_.length : Int)) = false := by simp; omega
            clear hka
            go_wp2_with fail
            go_ret2
            exact ⟨A', c', by rw [hE.out, HM.out]; rfl, by rw [hE.out, HM.out]; exact HO.out, Step.of⟩
          · have hE : Hid (T = ([], false)) := by show _ = _; rw [← HT.out, outO, if_neg HNB.out, Int.toNat_natCast, HS.out]; simp only []; rw [if_neg hka]
            have eka : ((k : Int) != (at_.length : Int)) = true := by simp; omega
            clear hka
            go_wp2_with fail
            go_ret2
            exact ⟨none, 0, by rw [hE.out]; rfl, by rw [hE.out]; exact Own.nil_ _ _ _ _, Step.of⟩
end Go.Proofs.YtafgfehjdbomfaaDoor
namespace Go.Proofs.YtafgfehjdbomfaaDoor
open Go.RowKit

theorem stO_run {at_ : List Int} {n j : Nat} {o : List Int} (h : stO at_ n = (j, o)) : ∀ m, n ≤ m → (∀ i : Nat, n ≤ i → i < m → at_[j]? ≠ some (i : Int)) → stO at_ m = (j, o ++ rangeI n m)
  | 0, hm, _ => by
    obtain rfl : n = 0 := by omega
    rw [h, rangeI_self, List.append_nil]
  | m + 1, hm, hne => by
    by_cases e : n = m + 1
    · subst e; rw [h, rangeI_self, List.append_nil]
    · have ih := stO_run h m (by omega) fun i h1 h2 => hne i h1 (by omega)
      rw [stO_miss ih (hne m (by omega) (by omega)), rangeI_succ (by omega), List.append_assoc]
theorem stO_stW {M : Nat} {at_ : List Int} : ∀ j n o, j ≤ at_.length → stW (M : Int) at_ j = some (n, o) → stO at_ n = (j, o)
  | 0, n, o, _, h => by
    simp [stW] at h
    obtain ⟨rfl, rfl⟩ := h
    rfl
  | j + 1, n, o, hj, h => by
    rw [stW] at h
    cases hs : stW (M : Int) at_ j with
    | none => rw [hs] at h; simp at h
    | some s0 =>
      obtain ⟨n0, o0⟩ := s0
      rw [hs] at h
      simp only at h
      split at h
      · simp at h
      · rename_i hc
        have hx : at_[j]? = some at_[j] := List.getElem?_eq_getElem (by omega)
        have hg : at_.getD j 0 = at_[j] := by rw [List.getD_eq_getElem?_getD, hx]; rfl
        rw [hg] at h hc
        obtain ⟨xn, hxn⟩ : ∃ xn : Nat, at_[j] = (xn : Int) := ⟨at_[j].toNat, by omega⟩
        rw [hxn] at h hc hx
        simp at h
        obtain ⟨rfl, rfl⟩ := h
        have ih := stO_stW j n0 o0 (by omega) hs
        have hr := stO_run ih xn (by omega) fun i h1 h2 => by rw [hx]; simp; omega
        exact stO_hit hr hx
theorem out_without (many : Int) (at_ : List Int) : outO many at_ = ((withoutR many at_).1, (withoutR many at_).2 == 0) := by
  unfold outO withoutR
  by_cases hb : many < 0 ∨ 4096 < many
  · rw [if_pos hb, if_pos hb]; rfl
  · rw [if_neg hb, if_neg hb]
    obtain ⟨M, rfl⟩ : ∃ M : Nat, many = (M : Int) := ⟨many.toNat, by omega⟩
    have hbd := stW_bd (many := (M : Int)) (at_ := at_) ⟨by omega, by omega⟩
    rw [Int.toNat_natCast]
    cases hs : stW (M : Int) at_ at_.length with
    | some st =>
      obtain ⟨n, o⟩ := st
      have hn := (hbd _ _ hs).1
      have h1 := stO_stW _ n o (Nat.le_refl _) hs
      have h2 := stO_run h1 M (by simpa using hn) fun i _ _ => by rw [List.getElem?_eq_none (Nat.le_refl _)]; simp
      rw [h2, if_pos rfl]
      rfl
    | none =>
      -- the first place that falls
      have key : ∃ j n o x, j < at_.length ∧ stW (M : Int) at_ j = some (n, o) ∧ at_[j]? = some x ∧ (x < (n : Int) ∨ (M : Int) ≤ x) := by
        have : ∀ k, k ≤ at_.length → stW (M : Int) at_ k = none → ∃ j n o x, j < at_.length ∧ stW (M : Int) at_ j = some (n, o) ∧ at_[j]? = some x ∧ (x < (n : Int) ∨ (M : Int) ≤ x) := by
          intro k
          induction k with
          | zero => intro _ h; simp [stW] at h
          | succ k ih =>
            intro hk h
            cases hk2 : stW (M : Int) at_ k with
            | none => exact ih (by omega) hk2
            | some s0 =>
              obtain ⟨n0, o0⟩ := s0
              have hx : at_[k]? = some at_[k] := List.getElem?_eq_getElem (by omega)
              have hg : at_.getD k 0 = at_[k] := by rw [List.getD_eq_getElem?_getD, hx]; rfl
              rw [stW, hk2] at h
              simp only [hg] at h
              split at h
              · rename_i hc; exact ⟨k, n0, o0, at_[k], by omega, hk2, hx, hc⟩
              · simp at h
        exact this _ (Nat.le_refl _) hs
      obtain ⟨j, n, o, x, hj, hst, hx, hbad⟩ := key
      have hn := (hbd _ _ hst).1
      have h1 := stO_stW j n o (by omega) hst
      have h2 := stO_run h1 M (by simpa using hn) fun i h1 h2 => by rw [hx]; simp; omega
      rw [h2, if_neg (by simp only []; omega)]
      rfl
end Go.Proofs.YtafgfehjdbomfaaDoor
namespace Go.Proofs.YtafgfehjdbomfaaDoor
open Go.RowKit

/-- The places ahead of k whose truth is not yes. -/
def noTo (ns : List Nod) (s : Sch) (vss : List (List Val)) : Nat → List Int
  | 0 => []
  | k + 1 => if (truthR ns s (vss.getD k [])).1 = 1 then noTo ns s vss k else noTo ns s vss k ++ [(k : Int)]
theorem yes_no_perm (ns : List Nod) (s : Sch) (vss : List (List Val)) : ∀ k, (yesTo ns s vss k ++ noTo ns s vss k).Perm (rangeI 0 k)
  | 0 => List.Perm.refl _
  | k + 1 => by
    have ih := yes_no_perm ns s vss k
    rw [yesTo, noTo, rangeI_succ (Nat.zero_le _)]
    split
    · rw [List.append_assoc]
      refine List.Perm.trans (List.Perm.append_left _ List.perm_append_comm) ?_
      rw [← List.append_assoc]
      exact List.Perm.append_right _ ih
    · rw [← List.append_assoc]
      exact List.Perm.append_right _ ih
theorem yes_pre (ns : List Nod) (s : Sch) (vss : List (List Val)) (k : Nat) : ∀ d, ∃ r, yesTo ns s vss (k + d) = yesTo ns s vss k ++ r ∧ ∀ x ∈ r, (k : Int) ≤ x
  | 0 => ⟨[], by simp, by simp⟩
  | d + 1 => by
    obtain ⟨r, h1, h2⟩ := yes_pre ns s vss k d
    rw [show k + (d + 1) = (k + d) + 1 by omega, yesTo]
    split
    · refine ⟨r ++ [((k + d : Nat) : Int)], by rw [h1, List.append_assoc], fun x hx => ?_⟩
      rcases List.mem_append.1 hx with hx | hx
      · exact h2 x hx
      · simp at hx; omega
    · exact ⟨r, h1, h2⟩
theorem stO_yes (ns : List Nod) (s : Sch) (vss : List (List Val)) (n : Nat) : ∀ i, i ≤ n → stO (yesTo ns s vss n) i = ((yesTo ns s vss i).length, noTo ns s vss i)
  | 0, _ => rfl
  | i + 1, hi => by
    have ih := stO_yes ns s vss n i (by omega)
    by_cases h : (truthR ns s (vss.getD i [])).1 = 1
    · obtain ⟨r, h1, _⟩ := yes_pre ns s vss (i + 1) (n - (i + 1))
      rw [show i + 1 + (n - (i + 1)) = n by omega] at h1
      have e : yesTo ns s vss (i + 1) = yesTo ns s vss i ++ [(i : Int)] := by rw [yesTo, if_pos h]
      have hx : (yesTo ns s vss n)[(yesTo ns s vss i).length]? = some (i : Int) := by
        rw [h1, e, List.append_assoc, List.getElem?_append_right (Nat.le_refl _)]
        simp
      rw [stO_hit ih hx, e, noTo, if_pos h, List.length_append]
      rfl
    · obtain ⟨r, h1, h2⟩ := yes_pre ns s vss (i + 1) (n - (i + 1))
      rw [show i + 1 + (n - (i + 1)) = n by omega] at h1
      have e : yesTo ns s vss (i + 1) = yesTo ns s vss i := by rw [yesTo, if_neg h]
      have hx : (yesTo ns s vss n)[(yesTo ns s vss i).length]? ≠ some (i : Int) := by
        rw [h1, e, List.getElem?_append_right (Nat.le_refl _), Nat.sub_self]
        intro hr
        have := h2 _ (List.mem_of_getElem? hr)
        omega
      rw [stO_miss ih hx, e, noTo, if_neg h]
/-- The places that a predicate does not take. -/
theorem without_yes (ns : List Nod) (s : Sch) (vss : List (List Val)) (n : Nat) (hn : n ≤ 4096) : withoutR (n : Int) (yesTo ns s vss n) = (noTo ns s vss n, 0) := by
  have h := out_without (n : Int) (yesTo ns s vss n)
  have h2 : outO (n : Int) (yesTo ns s vss n) = (noTo ns s vss n, true) := by
    rw [outO, if_neg (by omega), Int.toNat_natCast, stO_yes ns s vss n n (Nat.le_refl _), if_pos rfl]
  rw [h2] at h
  injection h with e1 e2
  refine Prod.ext e1.symm ?_
  simpa using e2.symm
theorem take_ok {n : Nat} {l : List Int} (h : ∀ x ∈ l, 0 ≤ x ∧ x < (n : Int)) : takeOk n l l.length = true := by
  unfold takeOk
  rw [List.take_length, List.all_eq_true]
  intro x hx
  have := h x hx
  simp
  omega
theorem range_mem (x : Int) : ∀ n, x ∈ rangeI 0 n ↔ 0 ≤ x ∧ x < (n : Int)
  | 0 => by simp [rangeI]
  | n + 1 => by
    rw [rangeI_succ (Nat.zero_le _), List.mem_append, range_mem x n]
    simp
    omega
theorem range_map {α : Type} (vss : List α) (d : α) : ∀ n, n ≤ vss.length → (rangeI 0 n).map (fun k => vss.getD k.toNat d) = vss.take n
  | 0, _ => by simp [rangeI]
  | n + 1, h => by
    have hx : vss[n]? = some vss[n] := List.getElem?_eq_getElem (by omega)
    rw [rangeI_succ (Nat.zero_le _), List.map_append, range_map vss d n (by omega), List.take_add_one, hx]
    simp [List.getD_eq_getElem?_getD, hx]
/-- What is taken and what is left are all rows. -/
theorem parts_perm {ns : List Nod} {s : Sch} {vss : List (List Val)} :
    ∃ a b, takeR vss (yesTo ns s vss vss.length) = (a, 0) ∧ takeR vss (noTo ns s vss vss.length) = (b, 0) ∧ a.length + b.length = vss.length ∧ (a ++ b).Perm (vss.map fun vs => vs.map clean) ∧ a.length = (yesTo ns s vss vss.length).length ∧ b.length = (noTo ns s vss vss.length).length := by
  have hp := yes_no_perm ns s vss vss.length
  have hy : takeOk vss.length (yesTo ns s vss vss.length) (yesTo ns s vss vss.length).length = true := take_ok fun x hx => (range_mem x _).1 (hp.mem_iff.1 (List.mem_append.2 (.inl hx)))
  have hz : takeOk vss.length (noTo ns s vss vss.length) (noTo ns s vss vss.length).length = true := take_ok fun x hx => (range_mem x _).1 (hp.mem_iff.1 (List.mem_append.2 (.inr hx)))
  refine ⟨_, _, by rw [takeR, if_pos hy], by rw [takeR, if_pos hz], ?_, ?_, by simp [takeTo], by simp [takeTo]⟩
  · have := hp.length_eq
    rw [List.length_append, rangeI_len] at this
    simpa [takeTo] using this
  · unfold takeTo
    rw [List.take_length, List.take_length, ← List.map_append]
    refine (hp.map _).trans ?_
    have h2 := range_map vss [] vss.length (Nat.le_refl _)
    rw [List.take_length] at h2
    have h3 : (rangeI 0 vss.length).map (fun k => (vss.getD k.toNat []).map clean) = vss.map fun vs => vs.map clean := by
      have h4 := congrArg (List.map fun vs : List Val => vs.map clean) h2
      rw [List.map_map] at h4
      exact h4
    rw [h3]
end Go.Proofs.YtafgfehjdbomfaaDoor
