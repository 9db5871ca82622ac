/-
  What every program answers: the law's own example of predicates.
-/
import Derived.Test.YtcgpfllkbflbhaaDoorPt
import Derived.Test.YtcgpfllkbflbhaaDoorPc
namespace Go.Proofs.YtcgpfllkbflbhaaDoor
open Go.RowKit

theorem nod_fit (n : Nod) : n.cells.length = 9 ∧ ∀ u ∈ n.cells, u.oneCell' = true := by
  refine ⟨rfl, fun u hu => ?_⟩
  simp [Nod.cells] at hu
  rcases hu with rfl | rfl | rfl | rfl | rfl | rfl | rfl | rfl | rfl <;> rfl
theorem nods_fit (l : List Nod) : Fit 9 (l.map Nod.cells) := Fit.map nod_fit l
def sa1 : Sch := ⟨0, [⟨1, ⟨#[97]⟩, 1⟩], 2⟩
theorem new_a : newR [⟨#[97]⟩] [1] = (sa1, 0) := by kernel_rfl
def an1 : Nod := ⟨1, ⟨#[97]⟩, 2, ⟨1, 5, false, ⟨#[]⟩⟩, 0, 0⟩
def an2 : Nod := ⟨3, ⟨#[]⟩, 0, ⟨0, 0, false, ⟨#[]⟩⟩, 0, 0⟩
def an3 : Nod := ⟨2, ⟨#[122]⟩, 0, ⟨0, 0, false, ⟨#[]⟩⟩, 0, 0⟩
theorem aw_t1 : truthR [an1, an2] sa1 [⟨1, 7, false, ⟨#[]⟩⟩] = (1, 0) := by kernel_rfl
theorem aw_t2 : truthR [an1, an2] sa1 [⟨0, 0, false, ⟨#[]⟩⟩] = (2, 0) := by kernel_rfl
theorem aw_t3 : checkE [an3] sa1 = 1501 := by kernel_rfl
theorem aw_t4 : predB [an1, an2] = true := by kernel_rfl
theorem aw_t5 : colsT [an1, an2] = [⟨#[97]⟩] := by kernel_rfl
/-- New memory that holds nodes. -/
theorem PrIn.new {w : World} {b : Nat} (hb : w.heap.size = b) {l : List Nod} {cs : List Value} (he : cs = (l.map Nod.cells).flatten) {n cap : Nat} (_hn : l.length = n) (hc : n ≤ cap) (hm : cap ≤ 24) (hs : (l.all fun n => decide (n.col.size ≤ 100) && decide (n.v.s.size ≤ 100)) = true) : PrIn (w.alloc (.cells cs.toArray 55)) l (some ⟨b, 0, none⟩) cap :=
  ⟨by omega, by omega, by omega, SlAt.new_at hb he (nods_fit l).len, fun n hn => by
    have := List.all_eq_true.1 hs n hn
    simp only [Bool.and_eq_true, decide_eq_true_eq] at this
    omega⟩

set_option maxRecDepth 100000 in
set_option maxHeartbeats 8000000 in
theorem awake15_any (w : World) : Calls Tryd.prog 30 #[] w fun e w' => e = .returned (.bool true) ∧ Step w w' := by
  have HN1 := hide (SlAt.strs1 (w := w) rfl ⟨#[97]⟩)
  have HN2 := hide (SlAt.ints1 (w := w.alloc (.cells #[.string ⟨#[97]⟩] 9)) (b := w.heap.size + 1) (by simp) 1)
  have hc := fun w' [Fut (w.alloc (.cells #[.string ⟨#[97]⟩] 9)) w'] [Fut ((w.alloc (.cells #[.string ⟨#[97]⟩] 9)).alloc (.cells #[.int .i64 1] 3)) w'] => qnew [⟨#[97]⟩] [1] (some ⟨w.heap.size, 0, none⟩) (some ⟨w.heap.size + 1, 0, none⟩) 1 1 w' HN1.out HN2.out (by decide) (by intro n hn; simp at hn; rw [hn]; decide)
  rw [new_a] at hc
  have HC := hide hc; clear hc
  go_enter Tryd.func30, Tryd.ntmps30
  go_wp2_with fail
  refine (HC.out _).mono ?_
  intro e w2 hr
  obtain ⟨A2, v2, rfl, hi2, ho2, hs2⟩ := hr
  clear HC HN1 HN2 ho2
  go_upto_region 3 with (fail)
  obtain ⟨W, hW⟩ : ∃ W, W = ((w2.alloc (.cells #[.int .i64 sa1.id, .slice A2 sa1.cols.length v2, .int .i64 sa1.next] 27)).alloc (.cells #[.int .i64 1, .string ⟨#[97]⟩, .int .i64 2, .int .i64 1, .int .i64 5, .bool false, .string ⟨#[]⟩, .int .i64 0, .int .i64 0, .int .i64 3, .string ⟨#[]⟩, .int .i64 0, .int .i64 0, .int .i64 0, .bool false, .string ⟨#[]⟩, .int .i64 0, .int .i64 0] 55)).alloc (.cells #[.slice (some ⟨w2.heap.size + 1, 0, none⟩) 2 2] 24) := ⟨_, rfl⟩
  have SW : Step w2 W := by rw [hW]; exact Step.of
  have HSB : Hid (Blk W w2.heap.size 27 [.int .i64 sa1.id, .slice A2 sa1.cols.length v2, .int .i64 sa1.next]) := by rw [hW]; exact ((Blk.new w2 [.int .i64 sa1.id, .slice A2 sa1.cols.length v2, .int .i64 sa1.next] 27).alloc _).alloc _
  have HPI : Hid (PrIn W [an1, an2] (some ⟨w2.heap.size + 1, 0, none⟩) 2) := by
    rw [hW]
    exact (PrIn.new (w := w2.alloc (.cells #[.int .i64 sa1.id, .slice A2 sa1.cols.length v2, .int .i64 sa1.next] 27)) (b := w2.heap.size + 1) (by simp) (l := [an1, an2]) (cs := [.int .i64 1, .string ⟨#[97]⟩, .int .i64 2, .int .i64 1, .int .i64 5, .bool false, .string ⟨#[]⟩, .int .i64 0, .int .i64 0, .int .i64 3, .string ⟨#[]⟩, .int .i64 0, .int .i64 0, .int .i64 0, .bool false, .string ⟨#[]⟩, .int .i64 0, .int .i64 0]) rfl (n := 2) rfl (Nat.le_refl _) (by decide) (by decide)).fut
  have HPB : Hid (Blk W (w2.heap.size + 2) 24 [.slice (some ⟨w2.heap.size + 1, 0, none⟩) 2 2]) := by rw [hW]; exact Blk.new_at (by simp) [.slice (some ⟨w2.heap.size + 1, 0, none⟩) 2 2] 24
  have HSI : Hid (SchIn w2 sa1 A2 v2) := hi2
  clear hi2
  rw [← hW]
  clear hW
  have t1 := fun w' [Fut W w'] [Fut w2 w'] [Fut (W.alloc (.cells #[.int .i64 1, .int .i64 7, .bool false, .string ⟨#[]⟩] 53)) w'] => ptruthR_any [an1, an2] (some ⟨w2.heap.size + 1, 0, none⟩) 2 sa1 A2 v2 [⟨1, 7, false, ⟨#[]⟩⟩] (some ⟨W.heap.size, 0, none⟩) 1 w' HPI.out HSI.out (SlAt.one W 4 [.int .i64 1, .int .i64 7, .bool false, .string ⟨#[]⟩] 53) (by decide)
  rw [aw_t1] at t1
  unfold Sch.val at t1
  have T1 := hide t1; clear t1
  obtain ⟨q0, q1, q2⟩ := At.z3 HSB.out.at0; have lq := HSB.out.lt
  have p0 := At.z1 HPB.out.at0; have lp := HPB.out.lt
  go_wp2_with fail
  refine (T1.out _).mono ?_
  rintro e w3 ⟨rfl, hs3⟩
  clear q0 q1 q2 lq p0 lp T1
  have t2 := fun w' [Fut W w'] [Fut w2 w'] [Fut (w3.alloc (.cells #[.int .i64 0, .int .i64 0, .bool false, .string ⟨#[]⟩] 53)) w'] => ptruthR_any [an1, an2] (some ⟨w2.heap.size + 1, 0, none⟩) 2 sa1 A2 v2 [⟨0, 0, false, ⟨#[]⟩⟩] (some ⟨w3.heap.size, 0, none⟩) 1 w' HPI.out HSI.out (SlAt.one w3 4 [.int .i64 0, .int .i64 0, .bool false, .string ⟨#[]⟩] 53) (by decide)
  rw [aw_t2] at t2
  unfold Sch.val at t2
  have T2 := hide t2; clear t2
  obtain ⟨q0, q1, q2⟩ := At.z3 (HSB.out.fut (w' := w3)).at0; have lq := (HSB.out.fut (w' := w3)).lt
  have p0 := At.z1 (HPB.out.fut (w' := w3)).at0; have lp := (HPB.out.fut (w' := w3)).lt
  go_wp2_with fail
  refine (T2.out _).mono ?_
  rintro e w4 ⟨rfl, hs4⟩
  clear q0 q1 q2 lq p0 lp T2
  have HPI3 := hide (PrIn.new (w := w4) (b := w4.heap.size) rfl (l := [an3]) (cs := [.int .i64 2, .string ⟨#[122]⟩, .int .i64 0, .int .i64 0, .int .i64 0, .bool false, .string ⟨#[]⟩, .int .i64 0, .int .i64 0]) rfl (n := 1) (cap := 1) rfl (Nat.le_refl _) (by decide) (by decide))
  have t3 := fun w' [Fut (w4.alloc (.cells #[.int .i64 2, .string ⟨#[122]⟩, .int .i64 0, .int .i64 0, .int .i64 0, .bool false, .string ⟨#[]⟩, .int .i64 0, .int .i64 0] 55)) w'] [Fut w2 w'] => pcheck_any [an3] (some ⟨w4.heap.size, 0, none⟩) 1 sa1 A2 v2 w' HPI3.out HSI.out
  rw [aw_t3] at t3
  unfold Sch.val at t3
  have T3 := hide t3; clear t3
  obtain ⟨q0, q1, q2⟩ := At.z3 (HSB.out.fut (w' := w4)).at0; have lq := (HSB.out.fut (w' := w4)).lt
  go_wp2_with fail
  refine (T3.out _).mono ?_
  rintro e w5 ⟨rfl, hs5⟩
  clear q0 q1 q2 lq T3
  have t4 := fun w' [Fut W w'] => ppred_any [an1, an2] (some ⟨w2.heap.size + 1, 0, none⟩) 2 w' HPI.out
  rw [aw_t4] at t4
  have T4 := hide t4; clear t4
  have t5 := fun w' [Fut W w'] => pcols_any [an1, an2] (some ⟨w2.heap.size + 1, 0, none⟩) 2 w' HPI.out
  rw [aw_t5] at t5
  have T5 := hide t5; clear t5
  have p0 := At.z1 (HPB.out.fut (w' := w5)).at0; have lp := (HPB.out.fut (w' := w5)).lt
  go_wp2_with (go_at_call 20; refine (numv_any _ _).mono ?_; rintro e w' ⟨rfl, rfl⟩)
  refine (T4.out _).mono ?_
  rintro e w6 ⟨rfl, hs6⟩
  clear p0 lp
  have p0 := At.z1 (HPB.out.fut (w' := w6)).at0; have lp := (HPB.out.fut (w' := w6)).lt
  go_wp2_with fail
  refine (T5.out _).mono ?_
  intro e w7 hr7
  obtain ⟨A7, c7, rfl, ho7, hs7⟩ := hr7
  clear p0 lp
  have st := fun w' [Fut w7 w'] [Fut (w7.alloc (.cells #[.string ⟨#[97]⟩] 9)) w'] => sameTexts_any [⟨#[97]⟩] A7 (some ⟨w7.heap.size, 0, none⟩) c7 1 w' (ho7.sl (str_fit _).len) (SlAt.strs1 (w := w7) rfl ⟨#[97]⟩) (by decide)
  have ST_ := hide st; clear st ho7
  go_wp2_with fail
  refine (ST_.out _).mono ?_
  rintro e w8 ⟨rfl, hs8⟩
  go_wp2_with fail
  go_ret
  exact ⟨rfl, Step.of⟩
end Go.Proofs.YtcgpfllkbflbhaaDoor
