/-
  What every program answers: the law's own example of parts.
-/
import Derived.Test.YtfojdjmeefglcaaDoorZf
import Derived.Test.YtfojdjmeefglcaaDoorO
namespace Go.Proofs.YtfojdjmeefglcaaDoor
open Go.RowKit

def sg : Sch := ⟨0, [⟨1, ⟨#[97]⟩, 1⟩], 2⟩
def fg : Fld := ⟨1, 2, 10⟩
theorem ag_new : newR [⟨#[97]⟩] [1] = (sg, 0) := by kernel_rfl
theorem ag_ap : applyR fg ⟨1, -7, false, ⟨#[]⟩⟩ = (⟨1, -10, false, ⟨#[]⟩⟩, 0) := by kernel_rfl
theorem ag_no : applyR ⟨0, 9, 0⟩ ⟨0, 0, false, ⟨#[]⟩⟩ = (Val.zero, 1300) := by kernel_rfl
theorem ag_part : partR 0 [fg] sg [⟨1, 25, false, ⟨#[]⟩⟩] = ([⟨1, 20, false, ⟨#[]⟩⟩], 0) := by kernel_rfl
theorem ag_spec : specB 0 [fg] sg = true := by kernel_rfl
theorem fld_lenG (l : List Fld) : ∀ x ∈ l.map Fld.cells, x.length = 3 := by intro x hx; obtain ⟨t, _, rfl⟩ := List.mem_map.1 hx; rfl
theorem SlAt.of_blkG {w : World} {g size : Nat} {t : TypeId} {l : List (List Value)} {cs : List Value} (h : Blk w g t cs) (he : cs = l.flatten) (hf : ∀ x ∈ l, x.length = size) : SlAt w w.heap.size size (some ⟨g, 0, none⟩) l := by
  subst he
  exact SlAt.of_at h.at0 h.lt hf

set_option maxRecDepth 100000 in
set_option maxHeartbeats 8000000 in
theorem awake13_any (w : World) : Calls Tryd.prog 47 #[] w fun e w' => e = .returned (.bool true) ∧ Step w w' := by
  have HN1 := hide (SlAt.strs1 (w := w) rfl ⟨#[97]⟩)
  have HN2 := hide (SlAt.ints1 (w := w.alloc (.cells #[.string ⟨#[97]⟩] 9)) (b := w.heap.size + 1) (by simp) 1)
  have hc := fun w' [Fut (w.alloc (.cells #[.string ⟨#[97]⟩] 9)) w'] [Fut ((w.alloc (.cells #[.string ⟨#[97]⟩] 9)).alloc (.cells #[.int .i64 1] 3)) w'] => qnew [⟨#[97]⟩] [1] (some ⟨w.heap.size, 0, none⟩) (some ⟨w.heap.size + 1, 0, none⟩) 1 1 w' HN1.out HN2.out (by decide) (by intro n hn; simp at hn; rw [hn]; decide)
  rw [ag_new] at hc
  have HC := hide hc; clear hc
  go_enter Tryd.func47, Tryd.ntmps47
  go_wp2_with fail
  refine (HC.out _).mono ?_
  intro e w2 hr
  obtain ⟨A2, v2, rfl, hi2, ho2, hs2⟩ := hr
  clear HC HN1 HN2 ho2
  go_upto_region 3 with (fail)
  obtain ⟨W, hW⟩ : ∃ W, W = ((w2.alloc (.cells #[.int .i64 sg.id, .slice A2 sg.cols.length v2, .int .i64 sg.next] 24)).alloc (.cells #[.int .i64 1, .int .i64 2, .int .i64 10] 78)).alloc (.cells #[.int .i64 0, .slice (some ⟨w2.heap.size + 1, 0, none⟩) 1 1] 88) := ⟨_, rfl⟩
  have SW : Step w2 W := by rw [hW]; exact Step.of
  have HSB : Hid (Blk W w2.heap.size 24 [.int .i64 sg.id, .slice A2 sg.cols.length v2, .int .i64 sg.next]) := by rw [hW]; exact ((Blk.new w2 [.int .i64 sg.id, .slice A2 sg.cols.length v2, .int .i64 sg.next] 24).alloc _).alloc _
  have HFB : Hid (Blk W (w2.heap.size + 1) 78 [.int .i64 1, .int .i64 2, .int .i64 10]) := by rw [hW]; exact (Blk.new_at (by simp) [.int .i64 1, .int .i64 2, .int .i64 10] 78).alloc _
  have HPB : Hid (Blk W (w2.heap.size + 1 + 1) 88 [.int .i64 0, .slice (some ⟨w2.heap.size + 1, 0, none⟩) 1 1]) := by rw [hW]; exact Blk.new_at (by simp) [.int .i64 0, .slice (some ⟨w2.heap.size + 1, 0, none⟩) 1 1] 88
  have HFI : Hid (FsIn W [fg] (some ⟨w2.heap.size + 1, 0, none⟩) 1) := ⟨by decide, by decide, by decide, SlAt.of_blkG (l := [fg].map Fld.cells) HFB.out rfl (fld_lenG _)⟩
  have HSI := hide hi2
  have hsz : W.heap.size = w2.heap.size + 3 := by rw [hW]; simp
  have hs1 : w2.heap.size < W.heap.size := by omega
  have HSZ := hide hsz
  clear hi2 hsz
  rw [← hW]
  clear hW
  have a1 := fun w' => papply_any fg ⟨1, -7, false, ⟨#[]⟩⟩ w' (Nat.zero_le _) (by decide) (by decide)
  rw [ag_ap] at a1
  unfold Val.val fg at a1
  have A1 := hide a1
  clear a1
  obtain ⟨q0, q1, q2⟩ := At.z3 (HSB.out.fut (w' := W)).at0; have lq := (HSB.out.fut (w' := W)).lt
  obtain ⟨p0, p1⟩ := At.z2 (HPB.out.fut (w' := W)).at0; have lp := (HPB.out.fut (w' := W)).lt
  obtain ⟨f0, f1, f2⟩ := At.z3 (HFB.out.fut (w' := W)).at0; have lf := (HFB.out.fut (w' := W)).lt
  go_wp2_with fail
  refine (A1.out _).mono ?_
  rintro e w3 ⟨rfl, hs3⟩
  clear q0 q1 q2 lq p0 p1 lp f0 f1 f2 lf A1
  have HX3 := hide (Blk.new w3 [.int .i64 1, .int .i64 (-10), .bool false, .string ⟨#[]⟩] 73)
  have HV3 := hide (SlAt.of_blkG (l := [(⟨1, 25, false, ⟨#[]⟩⟩ : Val)].map Val.cells) (Blk.new_at (w := w3.alloc (.cells #[.int .i64 1, .int .i64 (-10), .bool false, .string ⟨#[]⟩] 73)) (b := w3.heap.size + 1) (by simp) [.int .i64 1, .int .i64 25, .bool false, .string ⟨#[]⟩] 73) rfl (vals_fit _).len)
  have t2 : ∀ (w' : World) [Fut W w'] [Fut w2 w'] [Fut ((w3.alloc (.cells #[.int .i64 1, .int .i64 (-10), .bool false, .string ⟨#[]⟩] 73)).alloc (.cells #[.int .i64 1, .int .i64 25, .bool false, .string ⟨#[]⟩] 73)) w'], Calls Tryd.prog 52 #[.agg #[.int .i64 0, .slice (some ⟨w2.heap.size + 1, 0, none⟩) 1 1], .agg #[.int .i64 sg.id, .slice A2 sg.cols.length v2, .int .i64 sg.next], .agg #[.slice (some ⟨w3.heap.size + 1, 0, none⟩) 1 1]] w' fun e w'' => ∃ (A' : Option Addr) (c' : Nat), e = .returned (.tuple #[.slice A' 1 c', .int .i64 0]) ∧ Own w'' w'.heap.size 73 4 (.slice A' 1 c') ([(⟨1, 20, false, ⟨#[]⟩⟩ : Val)].map Val.cells) ∧ Step w' w'' := fun w' _ _ _ => by
    have := pPart_any 0 [fg] (some ⟨w2.heap.size + 1, 0, none⟩) 1 sg A2 v2 [⟨1, 25, false, ⟨#[]⟩⟩] (some ⟨w3.heap.size + 1, 0, none⟩) 1 w' HFI.out HSI.out HV3.out (by intro v hv; simp at hv; subst hv; exact ⟨Nat.zero_le _, by decide, by decide⟩) (by decide)
    rw [ag_part] at this
    exact this
  have T2 := hide t2
  clear t2
  obtain ⟨q0, q1, q2⟩ := At.z3 (HSB.out.fut (w' := w3)).at0; have lq := (HSB.out.fut (w' := w3)).lt
  obtain ⟨p0, p1⟩ := At.z2 (HPB.out.fut (w' := w3)).at0; have lp := (HPB.out.fut (w' := w3)).lt
  obtain ⟨f0, f1, f2⟩ := At.z3 (HFB.out.fut (w' := w3)).at0; have lf := (HFB.out.fut (w' := w3)).lt
  go_wp2_with fail
  refine (T2.out _).mono ?_
  intro e w4 hr
  obtain ⟨A4, v4, rfl, ho4, hs4⟩ := hr
  clear q0 q1 q2 lq p0 p1 lp f0 f1 f2 lf T2
  have HO4 := hide (ho4.sl (vals_fit _).len)
  clear ho4
  have a3 := fun w' => papply_any ⟨0, 9, 0⟩ ⟨0, 0, false, ⟨#[]⟩⟩ w' (Nat.zero_le _) (by decide) (by decide)
  rw [ag_no] at a3
  unfold Val.val Val.zero at a3
  have A3 := hide a3
  clear a3
  obtain ⟨q0, q1, q2⟩ := At.z3 (HSB.out.fut (w' := w4)).at0; have lq := (HSB.out.fut (w' := w4)).lt
  obtain ⟨p0, p1⟩ := At.z2 (HPB.out.fut (w' := w4)).at0; have lp := (HPB.out.fut (w' := w4)).lt
  obtain ⟨f0, f1, f2⟩ := At.z3 (HFB.out.fut (w' := w4)).at0; have lf := (HFB.out.fut (w' := w4)).lt
  go_wp2_with fail
  refine (A3.out _).mono ?_
  rintro e w5 ⟨rfl, hs5⟩
  clear q0 q1 q2 lq p0 p1 lp f0 f1 f2 lf A3
  obtain ⟨b, off, rfl, hb, hc⟩ := HO4.out.elem (w' := w5) inferInstance (k := 0) (by simp)
  obtain ⟨x0, x1, x2, x3⟩ := At.l4 (hc 0 (⟨1, 20, false, ⟨#[]⟩⟩ : Val).cells rfl)
  simp only [Nat.zero_mul, Nat.add_zero] at x0 x1 x2 x3
  have lb : b < w5.heap.size := by have := (fut w4 w5).size; omega
  have m_ := HX3.out.fut (w' := w5)
  obtain ⟨m0, m1, m2, m3⟩ := At.z4 m_.at0; have lm := m_.lt
  clear m_ hc
  have MS := hide (fun w' [Fut W w'] [Fut w2 w'] => pspec_any 0 [fg] (some ⟨w2.heap.size + 1, 0, none⟩) 1 sg A2 v2 w' HFI.out HSI.out)
  rw [ag_spec] at MS
  unfold Sch.val at MS
  obtain ⟨q0, q1, q2⟩ := At.z3 (HSB.out.fut (w' := w5)).at0; have lq := (HSB.out.fut (w' := w5)).lt
  obtain ⟨p0, p1⟩ := At.z2 (HPB.out.fut (w' := w5)).at0; have lp := (HPB.out.fut (w' := w5)).lt
  obtain ⟨f0, f1, f2⟩ := At.z3 (HFB.out.fut (w' := w5)).at0; have lf := (HFB.out.fut (w' := w5)).lt
  go_wp2_with (first | (go_at_call 22; refine (num_any _ _).mono ?_; rintro e w' ⟨rfl, rfl⟩) | (go_at_call 50; refine (MS.out _).mono ?_; rintro e w6 ⟨rfl, hs6⟩))
  go_ret
  exact ⟨rfl, Step.of⟩
end Go.Proofs.YtfojdjmeefglcaaDoor
