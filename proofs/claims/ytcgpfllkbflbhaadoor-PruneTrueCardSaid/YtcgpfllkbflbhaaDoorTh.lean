/-
  The law PruneTrue answers true for every input.
-/
import Derived.Test.YtcgpfllkbflbhaaDoorTg
namespace Go.Proofs.YtcgpfllkbflbhaaDoor
open Go.RowKit

def nT : Nod := ⟨0, ⟨#[]⟩, 0, ⟨0, 0, false, ⟨#[]⟩⟩, 0, 0⟩
def nN : Nod := ⟨3, ⟨#[]⟩, 0, ⟨0, 0, false, ⟨#[]⟩⟩, 0, 0⟩
theorem pt_check {ns : List Nod} (s : Sch) (h : ns = [] ∨ ns = [nT] ∨ ns = [nT, nN]) : checkE ns s = if mayB s = true then 0 else 1500 := by
  have hp : predB ns = true := by rcases h with rfl | rfl | rfl <;> kernel_rfl
  have hf : firstE s ns = 0 := by
    refine (firstE_zero_iff s).2 fun n hn => ?_
    have : n = nT ∨ n = nN := by
      rcases h with rfl | rfl | rfl
      · simp at hn
      · simp at hn; exact .inl hn
      · simpa using hn
    rcases this with rfl | rfl <;> simp [nodE, nT, nN]
  unfold checkE
  by_cases hm : mayB s = true
  · rw [if_pos ⟨hp, hm⟩, if_pos hm, hf]
  · rw [if_neg (fun h => hm h.2), if_neg hm]
theorem pt_stats {ns : List Nod} {b : Bool} (s : Sch) (sts : List Sta) (k : Int) (h : ns = [] ∨ ns = [nT] ∨ ns = [nT, nN]) (hb : walkB (leafStat s sts k) ns = b) :
    statsR ns s sts k = if mayB s = true then (if k < 0 ∨ 4096 < k ∨ sts.any (outOf k) = true then (false, 1800) else if k = 0 then (false, 0) else (b, 0)) else (false, 1500) := by
  unfold statsR
  rw [pt_check s h, hb]
  by_cases hm : mayB s = true
  · rw [if_pos hm, if_neg (by simp), if_pos hm]
  · rw [if_neg hm, if_pos (by decide), if_neg hm]
theorem pt_all (s : Sch) (sts : List Sta) (k : Int) (h0 : 0 ≤ k) : ∃ (a : Bool) (e : Int), statsR [] s sts k = (a, e) ∧ statsR [nT] s sts k = (a, e) ∧ statsR [nT, nN] s sts k = (false, e) ∧ ((e ≠ 0 ∧ a = false) ∨ (e = 0 ∧ a = decide (0 < k))) := by
  have b1 : walkB (leafStat s sts k) [] = true := by simp [walkB, evalW, lastW]; decide
  have b2 : walkB (leafStat s sts k) [nT] = true := by simp [walkB, evalW, lastW, stepW, nT]; decide
  have b3 : walkB (leafStat s sts k) [nT, nN] = false := by
    have e : evalW (leafStat s sts k) [nT, nN] = [2, joinS 3 2 2] := by simp [evalW, stepW, nT, nN]
    unfold walkB
    rw [e]
    decide
  rw [pt_stats s sts k (.inl rfl) b1, pt_stats s sts k (.inr (.inl rfl)) b2, pt_stats s sts k (.inr (.inr rfl)) b3]
  by_cases hm : mayB s = true
  · rw [if_pos hm, if_pos hm]
    by_cases hb : k < 0 ∨ 4096 < k ∨ sts.any (outOf k) = true
    · rw [if_pos hb, if_pos hb]; exact ⟨false, 1800, rfl, rfl, rfl, .inl ⟨by decide, rfl⟩⟩
    · rw [if_neg hb, if_neg hb]
      by_cases hz : k = 0
      · rw [if_pos hz, if_pos hz]; exact ⟨false, 0, rfl, rfl, rfl, .inr ⟨rfl, by simp; omega⟩⟩
      · rw [if_neg hz, if_neg hz]; exact ⟨true, 0, rfl, rfl, rfl, .inr ⟨rfl, by simp; omega⟩⟩
  · rw [if_neg hm, if_neg hm]; exact ⟨false, 1500, rfl, rfl, rfl, .inl ⟨by decide, rfl⟩⟩
theorem pt_parts (s : Sch) (sid : Int) (fs : List Fld) (part : List Val) : ∃ h : Int, partsR [nT, nN] s sid fs part = (false, h) := by
  have b3 : walkB (leafPart s fs part) [nT, nN] = false := by
    have e : evalW (leafPart s fs part) [nT, nN] = [2, joinS 3 2 2] := by simp [evalW, stepW, nT, nN]
    unfold walkB
    rw [e]
    decide
  unfold partsR
  rw [b3]
  repeat' split
  all_goals exact ⟨_, rfl⟩

theorem and_bd (x : Int) (m : Nat) (hm : (BitVec.ofInt 64 (m : Int)).toNat = m) (h : m < 4096) : 0 ≤ bits .and .i64 x m ∧ bits .and .i64 x m ≤ m := by
  have h1 : ((BitVec.ofInt 64 x) &&& (BitVec.ofInt 64 (m : Int))).toNat ≤ m := by
    rw [BitVec.toNat_and, hm]
    exact Nat.and_le_right
  obtain ⟨r, hr⟩ : ∃ r, ((BitVec.ofInt 64 x) &&& (BitVec.ofInt 64 (m : Int))).toNat = r := ⟨_, rfl⟩
  have e : bits .and .i64 x m = IntKind.i64.wrap (r : Int) := by rw [← hr]; rfl
  rw [hr] at h1
  rw [e, IntKind.wrap_i64]
  omega

set_option maxRecDepth 100000 in
set_option maxHeartbeats 8000000 in
theorem ptrue_any (s : Sch) (As : Option Addr) (cs : Nat) (sts : List Sta) (At_ : Option Addr) (ct : Nat) (rows sid : Int) (fs : List Fld) (Af : Option Addr) (cf : Nat) (part : List Val) (Av : Option Addr) (cv : Nat) (w : World)
    (hs : SchIn w s As cs) (ht : SlAt w w.heap.size 10 At_ (sts.map Sta.cells)) (htl : sts.length ≤ 4611686018427387904) (hfs : FsIn w fs Af cf) (hv : SlAt w w.heap.size 4 Av (part.map Val.cells)) :
    Calls Tryd.prog 10 #[s.val As cs, .slice At_ sts.length ct, .int .i64 rows, .agg #[.int .i64 sid, .slice Af fs.length cf], .slice Av part.length cv] w fun e w' => e = .returned (.bool true) ∧ Step w w' := by
  unfold Sch.val
  obtain ⟨W, hW⟩ : ∃ W, W = (w.alloc (.cells #[.int .i64 s.id, .slice As s.cols.length cs, .int .i64 s.next] 27)).alloc (.cells #[.int .i64 sid, .slice Af fs.length cf] 66) := ⟨_, rfl⟩
  have SW : Step w W := by rw [hW]; exact Step.of
  have HSB : Hid (Blk W w.heap.size 27 [.int .i64 s.id, .slice As s.cols.length cs, .int .i64 s.next]) := by rw [hW]; exact (Blk.new w [.int .i64 s.id, .slice As s.cols.length cs, .int .i64 s.next] 27).alloc _
  have HFB : Hid (Blk W (w.heap.size + 1) 66 [.int .i64 sid, .slice Af fs.length cf]) := by rw [hW]; exact Blk.new_at (by simp) [.int .i64 sid, .slice Af fs.length cf] 66
  have HW := hide hW
  clear hW
  go_enter Tryd.func10, Tryd.ntmps10
  go_wp2_with fail
  rw [← HW.out]
  refine (awake18_any _).mono ?_
  rintro e w1 ⟨rfl, hs1⟩
  go_upto_region 4 with (fail)
  have hab := and_bd rows 15 (by decide) (by decide)
  rw [show ((15 : Nat) : Int) = 15 from rfl] at hab
  obtain ⟨k, hk⟩ : ∃ k, bits .and .i64 rows 15 = k := ⟨_, rfl⟩
  rw [hk] at hab
  rw [hk]
  clear hk
  obtain ⟨h0, h15⟩ := hab
  obtain ⟨a, ee, r1, r2, r3, hae⟩ := pt_all s sts k h0
  obtain ⟨hh, r4⟩ := pt_parts s sid fs part
  have HAE := hide hae
  clear hae
  have HP0 : Hid (PrIn w [] none 0) := ⟨Nat.le_refl _, by decide, by decide, fun h => by simp at h, fun n hn => by simp at hn⟩
  have t1 := fun w' [Fut w w'] => pstats_any [] none 0 s As cs sts At_ ct k w' HP0.out hs ht htl
  rw [r1] at t1
  unfold Sch.val at t1
  have T1 := hide t1; clear t1
  obtain ⟨q0, q1, q2⟩ := At.z3 (HSB.out.fut (w' := w1)).at0; have lq := (HSB.out.fut (w' := w1)).lt
  go_wp2_with fail
  refine (T1.out _).mono ?_
  rintro e w2 ⟨rfl, hs_w2⟩
  clear q0 q1 q2 lq T1 HP0
  have HPI := hide (PrIn.of_blk1 (Blk.new w2 [.int .i64 0, .string ⟨#[]⟩, .int .i64 0, .int .i64 0, .int .i64 0, .bool false, .string ⟨#[]⟩, .int .i64 0, .int .i64 0] 55) (l := [nT]) rfl (n := 1) (cap := 1) rfl (Nat.le_refl _) (by decide) (by decide))
  have t1 := fun w' [Fut (w2.alloc (.cells #[.int .i64 0, .string ⟨#[]⟩, .int .i64 0, .int .i64 0, .int .i64 0, .bool false, .string ⟨#[]⟩, .int .i64 0, .int .i64 0] 55)) w'] [Fut w w'] => pstats_any [nT] (some ⟨w2.heap.size, 0, none⟩) 1 s As cs sts At_ ct k w' HPI.out hs ht htl
  rw [r2] at t1
  unfold Sch.val at t1
  have T1 := hide t1; clear t1
  obtain ⟨q0, q1, q2⟩ := At.z3 (HSB.out.fut (w' := w2)).at0; have lq := (HSB.out.fut (w' := w2)).lt
  go_wp2_with fail
  refine (T1.out _).mono ?_
  rintro e w3 ⟨rfl, hs_w3⟩
  clear q0 q1 q2 lq T1 HPI
  have HPI := hide (PrIn.of_blk1 (Blk.new w3 [.int .i64 0, .string ⟨#[]⟩, .int .i64 0, .int .i64 0, .int .i64 0, .bool false, .string ⟨#[]⟩, .int .i64 0, .int .i64 0, .int .i64 3, .string ⟨#[]⟩, .int .i64 0, .int .i64 0, .int .i64 0, .bool false, .string ⟨#[]⟩, .int .i64 0, .int .i64 0] 55) (l := [nT, nN]) rfl (n := 2) (cap := 2) rfl (Nat.le_refl _) (by decide) (by decide))
  have t1 := fun w' [Fut (w3.alloc (.cells #[.int .i64 0, .string ⟨#[]⟩, .int .i64 0, .int .i64 0, .int .i64 0, .bool false, .string ⟨#[]⟩, .int .i64 0, .int .i64 0, .int .i64 3, .string ⟨#[]⟩, .int .i64 0, .int .i64 0, .int .i64 0, .bool false, .string ⟨#[]⟩, .int .i64 0, .int .i64 0] 55)) w'] [Fut w w'] => pstats_any [nT, nN] (some ⟨w3.heap.size, 0, none⟩) 2 s As cs sts At_ ct k w' HPI.out hs ht htl
  rw [r3] at t1
  unfold Sch.val at t1
  have T1 := hide t1; clear t1
  obtain ⟨q0, q1, q2⟩ := At.z3 (HSB.out.fut (w' := w3)).at0; have lq := (HSB.out.fut (w' := w3)).lt
  go_wp2_with fail
  refine (T1.out _).mono ?_
  rintro e w4 ⟨rfl, hs_w4⟩
  clear q0 q1 q2 lq T1 HPI
  have HPI := hide (PrIn.of_blk1 (Blk.new w4 [.int .i64 0, .string ⟨#[]⟩, .int .i64 0, .int .i64 0, .int .i64 0, .bool false, .string ⟨#[]⟩, .int .i64 0, .int .i64 0, .int .i64 3, .string ⟨#[]⟩, .int .i64 0, .int .i64 0, .int .i64 0, .bool false, .string ⟨#[]⟩, .int .i64 0, .int .i64 0] 55) (l := [nT, nN]) rfl (n := 2) (cap := 2) rfl (Nat.le_refl _) (by decide) (by decide))
  have t1 := fun w' [Fut (w4.alloc (.cells #[.int .i64 0, .string ⟨#[]⟩, .int .i64 0, .int .i64 0, .int .i64 0, .bool false, .string ⟨#[]⟩, .int .i64 0, .int .i64 0, .int .i64 3, .string ⟨#[]⟩, .int .i64 0, .int .i64 0, .int .i64 0, .bool false, .string ⟨#[]⟩, .int .i64 0, .int .i64 0] 55)) w'] [Fut w w'] => pparts_any [nT, nN] (some ⟨w4.heap.size, 0, none⟩) 2 s As cs sid fs Af cf part Av cv w' HPI.out hs hfs hv
  rw [r4] at t1
  unfold Sch.val at t1
  have T1 := hide t1; clear t1
  obtain ⟨q0, q1, q2⟩ := At.z3 (HSB.out.fut (w' := w4)).at0; have lq := (HSB.out.fut (w' := w4)).lt
  obtain ⟨f0, f1⟩ := At.z2 (HFB.out.fut (w' := w4)).at0; have lf := (HFB.out.fut (w' := w4)).lt
  go_wp2_with fail
  refine (T1.out _).mono ?_
  rintro e w5 ⟨rfl, hs_w5⟩
  clear q0 q1 q2 lq f0 f1 lf T1 HPI r1 r2 r3 r4
  have RN := hide (rname_any ⟨#[97]⟩)
  have HRN : Hid (nameB ⟨#[97]⟩ = true) := by show _ = _; kernel_rfl
  rw [HRN.out] at RN
  rcases HAE.out with ⟨h1, rfl⟩ | ⟨rfl, rfl⟩
  · have e1 : (ee != 0) = true := by simpa using h1
    have e2 : (ee == 0) = false := by simpa using h1
    clear h1 HAE
    go_wp2_with (first | (go_at_call 20; refine (numv_any _ _).mono ?_; rintro e w' ⟨rfl, rfl⟩) | (go_at_call 39; refine (RN.out _).mono ?_; rintro e w' ⟨rfl, rfl⟩))
    go_ret
    exact ⟨rfl, Step.of⟩
  · clear HAE
    obtain ⟨p, hp⟩ : ∃ p, decide (0 < k) = p := ⟨_, rfl⟩
    rw [hp]
    by_cases hz : hh = 0
    · subst hz
      go_wp2_with (first | (go_at_call 20; refine (numv_any _ _).mono ?_; rintro e w' ⟨rfl, rfl⟩) | (go_at_call 39; refine (RN.out _).mono ?_; rintro e w' ⟨rfl, rfl⟩))
      go_ret
      exact ⟨by simp, Step.of⟩
    · have e1 : (hh != 0) = true := by simpa using hz
      clear hz
      go_wp2_with (first | (go_at_call 20; refine (numv_any _ _).mono ?_; rintro e w' ⟨rfl, rfl⟩) | (go_at_call 39; refine (RN.out _).mono ?_; rintro e w' ⟨rfl, rfl⟩))
      go_ret
      exact ⟨by simp, Step.of⟩
end Go.Proofs.YtcgpfllkbflbhaaDoor
