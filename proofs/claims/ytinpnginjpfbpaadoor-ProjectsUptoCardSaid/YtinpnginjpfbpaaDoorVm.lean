/-
  What every program answers: the law's own example of projections.
-/
import Derived.Test.YtinpnginjpfbpaaDoorYo
import Derived.Test.YtinpnginjpfbpaaDoorFlRow
import Derived.Test.YtinpnginjpfbpaaDoorPs
namespace Go.Proofs.YtinpnginjpfbpaaDoor
open Go.RowKit

theorem num_any (n : Int) (w : World) : Calls Tryd.prog 11 #[.int .i64 n] w fun e w' => e = .returned (.int .i64 n) ∧ w = w' := by
  go_enter Tryd.func11, Tryd.ntmps11
  go_wp2
  go_ret
  exact ⟨rfl, rfl⟩

def sq : Sch := ⟨0, [⟨1, ⟨#[97]⟩, 1⟩, ⟨2, ⟨#[98]⟩, 3⟩], 3⟩
def vx : Val := ⟨3, 0, false, ⟨#[120]⟩⟩
def dd (a b c : Nat) : DatA := ⟨1, [⟨2, ⟨#[]⟩, 3⟩], some ⟨a, 0, none⟩, 1, [⟨some ⟨b, 0, none⟩, 1, [vx]⟩], some ⟨c, 0, none⟩, 1⟩
theorem an_new : newR [⟨#[97]⟩, ⟨#[98]⟩] [1, 3] = (sq, 0) := by kernel_rfl
theorem an_to (a b c : Nat) : toR sq (dd a b c).rows (dd a b c).cols (dd a b c).vss = ([[Val.zero, vx]], 0) := by kernel_rfl
theorem an_to0 (a b c : Nat) : toR Sch.zero (dd a b c).rows (dd a b c).cols (dd a b c).vss = ([], 1400) := by kernel_rfl
theorem an_pick : pickR sq [[Val.zero, vx]] [⟨#[98]⟩] = ([[vx]], 0) := by kernel_rfl
theorem map_one {os : List RowA} {vs : List Val} (h : os.map RowA.vs = [vs]) : ∃ r, os = [r] ∧ r.vs = vs := by
  match os, h with
  | [r], h => exact ⟨r, rfl, by simpa using h⟩
theorem sch_zero (w : World) : SchIn w Sch.zero none 0 := ⟨Nat.le_refl _, by decide, by decide, SlAt.nil_, fun c hc => by simp [Sch.zero] at hc⟩
theorem SlAt.of_blk {w : World} {g size : Nat} {t : TypeId} {l : List (List Value)} {cs : List Value} (h : Blk w g t cs) (he : cs = l.flatten) (hf : ∀ x ∈ l, x.length = size) : SlAt w w.heap.size size (some ⟨g, 0, none⟩) l := by
  subst he
  exact SlAt.of_at h.at0 h.lt hf
/-- One row in memory of its own. -/
theorem rows_one {w : World} {gv gr n : Nat} {vs : List Val} {cs : List Value} (hv : Blk w gv 57 cs) (he : cs = (vs.map Val.cells).flatten) (hr : Blk w gr 48 [.slice (some ⟨gv, 0, none⟩) n n]) (hn : vs.length = n) (hl : n ≤ 100) (hs : (vs.all fun v => decide (v.s.size ≤ 100)) = true) : RowsIn w [⟨some ⟨gv, 0, none⟩, n, vs⟩] (some ⟨gr, 0, none⟩) 1 := by
  refine ⟨Nat.le_refl _, (by decide : 1 ≤ 5864062014800), by decide, SlAt.of_blk hr (by simp [RowA.cells, hn]) (rows_fit _).len, fun r h => ?_⟩
  simp at h
  subst h
  exact ⟨by simp [hn], by simp [hn]; omega, by simp; omega, SlAt.of_blk hv he (vals_fit _).len, fun v hv => by
    have := List.all_eq_true.1 hs v hv
    simp only [decide_eq_true_eq] at this
    omega⟩
theorem dd_in {w : World} {a b c : Nat} (ha : Blk w a 53 [.int .i64 2, .string ⟨#[]⟩, .int .i64 3]) (hb : Blk w b 57 [.int .i64 3, .int .i64 0, .bool false, .string ⟨#[120]⟩]) (hc : Blk w c 48 [.slice (some ⟨b, 0, none⟩) 1 1]) : DatIn w (dd a b c) :=
  ⟨SlAt.of_blk ha rfl (cols_fit _).len, (by decide : 1 ≤ 1), (by decide : 1 ≤ 9223372036854775807), (by decide : 1 ≤ 4398046511102), by intro c hc; simp [dd] at hc; subst hc; decide, rows_one (vs := [vx]) hb rfl hc rfl (by decide) (by decide)⟩

set_option maxRecDepth 100000 in
set_option maxHeartbeats 8000000 in
theorem awake14_any (w : World) : Calls Tryd.prog 15 #[] w fun e w' => e = .returned (.bool true) ∧ Step w w' := by
  have HN1 := hide (SlAt.strs2 (w := w) rfl ⟨#[97]⟩ ⟨#[98]⟩)
  have HN2 := hide (SlAt.ints2 (w := w.alloc (.cells #[.string ⟨#[97]⟩, .string ⟨#[98]⟩] 9)) (b := w.heap.size + 1) (by simp) 1 3)
  have hc := fun w' [Fut (w.alloc (.cells #[.string ⟨#[97]⟩, .string ⟨#[98]⟩] 9)) w'] [Fut ((w.alloc (.cells #[.string ⟨#[97]⟩, .string ⟨#[98]⟩] 9)).alloc (.cells #[.int .i64 1, .int .i64 3] 3)) w'] => qnew [⟨#[97]⟩, ⟨#[98]⟩] [1, 3] (some ⟨w.heap.size, 0, none⟩) (some ⟨w.heap.size + 1, 0, none⟩) 2 2 w' HN1.out HN2.out (by decide) (by intro n hn; simp at hn; rcases hn with rfl | rfl <;> decide)
  rw [an_new] at hc
  have HC := hide hc; clear hc
  go_enter Tryd.func15, Tryd.ntmps15
  go_wp2_with fail
  refine (HC.out _).mono ?_
  intro e w2 hr
  obtain ⟨A2, v2, rfl, hi2, ho2, hs2⟩ := hr
  clear HC HN1 HN2 ho2
  go_upto_region 3 with (fail)
  obtain ⟨W, hW⟩ : ∃ W, W = ((((w2.alloc (.cells #[.int .i64 sq.id, .slice A2 sq.cols.length v2, .int .i64 sq.next] 24)).alloc (.cells #[.int .i64 2, .string ⟨#[]⟩, .int .i64 3] 53)).alloc (.cells #[.int .i64 3, .int .i64 0, .bool false, .string ⟨#[120]⟩] 57)).alloc (.cells #[.slice (some ⟨w2.heap.size + 1 + 1, 0, none⟩) 1 1] 48)).alloc (.cells #[.int .i64 1, .slice (some ⟨w2.heap.size + 1, 0, none⟩) 1 1, .slice (some ⟨w2.heap.size + 1 + 1 + 1, 0, none⟩) 1 1] 27) := ⟨_, rfl⟩
  have SW : Step w2 W := by rw [hW]; exact Step.of
  have HSB : Hid (Blk W w2.heap.size 24 [.int .i64 sq.id, .slice A2 sq.cols.length v2, .int .i64 sq.next]) := by rw [hW]; exact ((((Blk.new w2 [.int .i64 sq.id, .slice A2 sq.cols.length v2, .int .i64 sq.next] 24).alloc _).alloc _).alloc _).alloc _
  have HCB : Hid (Blk W (w2.heap.size + 1) 53 [.int .i64 2, .string ⟨#[]⟩, .int .i64 3]) := by rw [hW]; exact (((Blk.new_at (by simp) [.int .i64 2, .string ⟨#[]⟩, .int .i64 3] 53).alloc _).alloc _).alloc _
  have HVB : Hid (Blk W (w2.heap.size + 1 + 1) 57 [.int .i64 3, .int .i64 0, .bool false, .string ⟨#[120]⟩]) := by rw [hW]; exact ((Blk.new_at (by simp) [.int .i64 3, .int .i64 0, .bool false, .string ⟨#[120]⟩] 57).alloc _).alloc _
  have HRB : Hid (Blk W (w2.heap.size + 1 + 1 + 1) 48 [.slice (some ⟨w2.heap.size + 1 + 1, 0, none⟩) 1 1]) := by rw [hW]; exact (Blk.new_at (by simp) [.slice (some ⟨w2.heap.size + 1 + 1, 0, none⟩) 1 1] 48).alloc _
  have HDB : Hid (Blk W (w2.heap.size + 1 + 1 + 1 + 1) 27 [.int .i64 1, .slice (some ⟨w2.heap.size + 1, 0, none⟩) 1 1, .slice (some ⟨w2.heap.size + 1 + 1 + 1, 0, none⟩) 1 1]) := by rw [hW]; exact Blk.new_at (by simp) [.int .i64 1, .slice (some ⟨w2.heap.size + 1, 0, none⟩) 1 1, .slice (some ⟨w2.heap.size + 1 + 1 + 1, 0, none⟩) 1 1] 27
  have HDI := hide (dd_in HCB.out HVB.out HRB.out)
  have HSI := hide hi2
  have hsz : W.heap.size = w2.heap.size + 5 := by rw [hW]; simp
  have hs1 : w2.heap.size < W.heap.size := by omega
  have hs4 : w2.heap.size + 1 + 1 + 1 + 1 < W.heap.size := by omega
  have HSZ := hide hsz
  clear hi2 hsz HCB HVB HRB
  rw [← hW]
  clear hW
  obtain ⟨q0, q1, q2⟩ := At.z3 HSB.out.at0
  obtain ⟨p0, p1, p2⟩ := At.z3 HDB.out.at0
  have t1 := fun w' [Fut w2 w'] [Fut W w'] => pto_any sq A2 v2 (dd (w2.heap.size + 1) (w2.heap.size + 1 + 1) (w2.heap.size + 1 + 1 + 1)) w' HSI.out HDI.out
  rw [an_to] at t1
  have T1 := hide t1; clear t1
  go_wp2_with fail
  refine (T1.out _).mono ?_
  intro e w3 hr
  obtain ⟨A3, v3, os1, ho1, rfl, hown3, hs3⟩ := hr
  obtain ⟨r1, rfl, hr1⟩ := map_one ho1
  have HR3 := hide (hown3.rin (by decide : 1 ≤ 5864062014800) (by intro vs hvs; simp [hr1] at hvs; subst hvs; exact ⟨(by decide : 2 ≤ 3518437208780), by intro v hv; simp at hv; rcases hv with rfl | rfl <;> decide⟩))
  have HR1 := hide hr1
  clear ho1 hown3 T1 q0 q1 q2 p0 p1 p2 hr1
  have hz3 := hs3.size
  obtain ⟨q0, q1, q2⟩ := At.z3 (HSB.out.fut (w' := w3)).at0; have lq := (HSB.out.fut (w' := w3)).lt
  have HN3 := hide (SlAt.strs1 (w := w3) rfl ⟨#[98]⟩)
  have t2 := fun w' [Fut w2 w'] [Fut w3 w'] [Fut (w3.alloc (.cells #[.string ⟨#[98]⟩] 9)) w'] => ppick_any sq A2 v2 [r1] A3 v3 [⟨#[98]⟩] (some ⟨w3.heap.size, 0, none⟩) 1 w' HSI.out HR3.out HN3.out (by decide)
  rw [show [r1].map RowA.vs = [[Val.zero, vx]] by simp [HR1.out], an_pick] at t2
  have T2 := hide t2; clear t2
  go_wp2_with fail
  refine (T2.out _).mono ?_
  intro e w4 hr
  obtain ⟨A4, v4, os2, ho2, rfl, hown4, hs4b⟩ := hr
  obtain ⟨r2, rfl, hr2⟩ := map_one ho2
  have HR4 := hide (hown4.rin (by decide : 1 ≤ 5864062014800) (by intro vs hvs; simp [hr2] at hvs; subst hvs; exact ⟨(by decide : 1 ≤ 3518437208780), by intro v hv; simp at hv; subst hv; decide⟩))
  have HR2 := hide hr2
  clear ho2 hown4 T2 q0 q1 q2 lq hr2
  have hz4 := hs4b.size
  have l4 := (HDB.out.fut (w' := w4.alloc (.cells #[.int .i64 0, .slice none 0 0, .int .i64 0] 24))).lt
  obtain ⟨p0, p1, p2⟩ := At.z3 (HDB.out.fut (w' := w4)).at0; have lp := (HDB.out.fut (w' := w4)).lt
  have t3 := fun w' [Fut w2 w'] [Fut W w'] => pto_any Sch.zero none 0 (dd (w2.heap.size + 1) (w2.heap.size + 1 + 1) (w2.heap.size + 1 + 1 + 1)) w' (sch_zero w2) HDI.out
  rw [an_to0] at t3
  have T3 := hide t3; clear t3
  go_wp2_with fail
  refine (T3.out _).mono ?_
  intro e w5 hr
  obtain ⟨A5, v5, os3, ho3, rfl, hown5, hs5⟩ := hr
  clear hown5 T3 p0 p1 p2 lp l4 ho3
  have HV5 := hide ((Blk.new w5 [.int .i64 0, .int .i64 0, .bool false, .string ⟨#[]⟩, .int .i64 3, .int .i64 0, .bool false, .string ⟨#[120]⟩] 57).alloc (.cells #[.slice (some ⟨w5.heap.size, 0, none⟩) 2 2] 48))
  have HW5 := hide (Blk.new_at (w := w5.alloc (.cells #[.int .i64 0, .int .i64 0, .bool false, .string ⟨#[]⟩, .int .i64 3, .int .i64 0, .bool false, .string ⟨#[120]⟩] 57)) (b := w5.heap.size + 1) (by simp) [.slice (some ⟨w5.heap.size, 0, none⟩) 2 2] 48)
  have HI5 := hide (rows_one (vs := [Val.zero, vx]) HV5.out rfl HW5.out rfl (by decide) (by decide))
  have S1 : Hid (∀ w' [Fut w3 w'] [Fut ((w5.alloc (.cells #[.int .i64 0, .int .i64 0, .bool false, .string ⟨#[]⟩, .int .i64 3, .int .i64 0, .bool false, .string ⟨#[120]⟩] 57)).alloc (.cells #[.slice (some ⟨w5.heap.size, 0, none⟩) 2 2] 48)) w'], Calls Tryd.prog 10 #[.slice A3 1 v3, .slice (some ⟨w5.heap.size + 1, 0, none⟩) 1 1] w' fun e w'' => e = .returned (.bool true) ∧ Step w' w'') := hide (fun w' _ _ => (sameRows_any [r1] [⟨some ⟨w5.heap.size, 0, none⟩, 2, [Val.zero, vx]⟩] A3 (some ⟨w5.heap.size + 1, 0, none⟩) v3 1 w' HR3.out HI5.out (by simp [HR1.out])))
  go_wp2_with (first | (go_at_call 11; refine (num_any _ _).mono ?_; rintro e w' ⟨rfl, rfl⟩) | ((with_reducible refine (S1.out _).mono ?_); rintro e w6 ⟨rfl, hs6⟩; have HV6 := hide ((Blk.new w6 [.int .i64 3, .int .i64 0, .bool false, .string ⟨#[120]⟩] 57).alloc (.cells #[.slice (some ⟨w6.heap.size, 0, none⟩) 1 1] 48)); have HW6 := hide (Blk.new_at (w := w6.alloc (.cells #[.int .i64 3, .int .i64 0, .bool false, .string ⟨#[120]⟩] 57)) (b := w6.heap.size + 1) (by simp) [.slice (some ⟨w6.heap.size, 0, none⟩) 1 1] 48); have HI6 := hide (rows_one (vs := [vx]) HV6.out rfl HW6.out rfl (by decide) (by decide)); have S2 : Hid (∀ w' [Fut w4 w'] [Fut ((w6.alloc (.cells #[.int .i64 3, .int .i64 0, .bool false, .string ⟨#[120]⟩] 57)).alloc (.cells #[.slice (some ⟨w6.heap.size, 0, none⟩) 1 1] 48)) w'], Calls Tryd.prog 10 #[.slice A4 1 v4, .slice (some ⟨w6.heap.size + 1, 0, none⟩) 1 1] w' fun e w'' => e = .returned (.bool true) ∧ Step w' w'') := hide (fun w' _ _ => (sameRows_any [r2] [⟨some ⟨w6.heap.size, 0, none⟩, 1, [vx]⟩] A4 (some ⟨w6.heap.size + 1, 0, none⟩) v4 1 w' HR4.out HI6.out (by simp [HR2.out])))) | ((with_reducible refine (S2.out _).mono ?_); rintro e w7 ⟨rfl, hs7⟩))
  go_ret
  exact ⟨rfl, Step.of⟩
end Go.Proofs.YtinpnginjpfbpaaDoor
