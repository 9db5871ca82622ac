/-
  What every program answers: the law's own example of files that are left out.
-/
import Derived.Test.YtafgfehjdbomfaaDoorTf
import Derived.Test.YtafgfehjdbomfaaDoorPx
namespace Go.Proofs.YtafgfehjdbomfaaDoor
open Go.RowKit

def bn1 : Nod := ⟨1, ⟨#[97]⟩, 4, ⟨1, 5, false, ⟨#[]⟩⟩, 0, 0⟩
def bst (m : Int) : Sta := ⟨1, 0, ⟨1, 1, false, ⟨#[]⟩⟩, ⟨1, m, false, ⟨#[]⟩⟩⟩
theorem bw_1 : statsR [bn1] sa1 [bst 5] 3 = (false, 0) := by kernel_rfl
theorem bw_2 : statsR [bn1] sa1 [bst 6] 3 = (true, 0) := by kernel_rfl
theorem bw_3 : statsR [bn1] sa1 [bst 6] (-1) = (false, 1800) := by kernel_rfl
theorem bw_4 : partsR [bn1] sa1 0 [⟨1, 0, 0⟩] [⟨1, 9, false, ⟨#[]⟩⟩] = (true, 0) := by kernel_rfl
theorem PrIn.of_blk1 {w : World} {g : Nat} {l : List Nod} {cs : List Value} (h : Blk w g 59 cs) (he : cs = (l.map Nod.cells).flatten) {n cap : Nat} (_hn : l.length = n) (hc : n ≤ cap) (hm : cap ≤ 24) (hs : (l.all fun n => decide (n.col.size ≤ 100) && decide (n.v.s.size ≤ 100)) = true) : PrIn w l (some ⟨g, 0, none⟩) cap :=
  ⟨by omega, by omega, by omega, SlAt.of_blk1 h he (nods_fit l).len, fun n hn => by
    have := List.all_eq_true.1 hs n hn
    simp only [Bool.and_eq_true, decide_eq_true_eq] at this
    omega⟩
theorem sta_len (l : List Sta) : ∀ x ∈ l.map Sta.cells, x.length = 10 := by intro x hx; obtain ⟨t, _, rfl⟩ := List.mem_map.1 hx; rfl
theorem fld_len (l : List Fld) : ∀ x ∈ l.map Fld.cells, x.length = 3 := by intro x hx; obtain ⟨t, _, rfl⟩ := List.mem_map.1 hx; rfl

set_option maxRecDepth 100000 in
set_option maxHeartbeats 8000000 in
theorem awake18_any (w : World) : Calls Tryd.prog 28 #[] w fun e w' => e = .returned (.bool true) ∧ Step w w' := by
  have HN1 := hide (SlAt.strs1 (w := w) rfl ⟨#[97]⟩)
  have HN2 := hide (SlAt.ints1 (w := w.alloc (.cells #[.string ⟨#[97]⟩] 9)) (b := w.heap.size + 1) (by simp) 1)
  have hc := fun w' [Fut (w.alloc (.cells #[.string ⟨#[97]⟩] 9)) w'] [Fut ((w.alloc (.cells #[.string ⟨#[97]⟩] 9)).alloc (.cells #[.int .i64 1] 3)) w'] => qnew [⟨#[97]⟩] [1] (some ⟨w.heap.size, 0, none⟩) (some ⟨w.heap.size + 1, 0, none⟩) 1 1 w' HN1.out HN2.out (by decide) (by intro n hn; simp at hn; rw [hn]; decide)
  rw [new_a] at hc
  have HC := hide hc; clear hc
  go_enter Tryd.func28, Tryd.ntmps28
  go_wp2_with fail
  refine (HC.out _).mono ?_
  intro e w2 hr
  obtain ⟨A2, v2, rfl, hi2, ho2, hs2⟩ := hr
  clear HC HN1 HN2 ho2
  go_upto_region 4 with (fail)
  obtain ⟨W, hW⟩ : ∃ W, W = (((w2.alloc (.cells #[.int .i64 sa1.id, .slice A2 sa1.cols.length v2, .int .i64 sa1.next] 27)).alloc (.cells #[.int .i64 1, .string ⟨#[97]⟩, .int .i64 4, .int .i64 1, .int .i64 5, .bool false, .string ⟨#[]⟩, .int .i64 0, .int .i64 0] 59)).alloc (.cells #[.slice (some ⟨w2.heap.size + 1, 0, none⟩) 1 1] 24)).alloc (.cells #[.int .i64 1, .int .i64 0, .int .i64 1, .int .i64 1, .bool false, .string ⟨#[]⟩, .int .i64 1, .int .i64 5, .bool false, .string ⟨#[]⟩] 68) := ⟨_, rfl⟩
  have SW : Step w2 W := by rw [hW]; exact Step.of
  have HSB : Hid (Blk W w2.heap.size 27 [.int .i64 sa1.id, .slice A2 sa1.cols.length v2, .int .i64 sa1.next]) := by rw [hW]; exact (((Blk.new w2 [.int .i64 sa1.id, .slice A2 sa1.cols.length v2, .int .i64 sa1.next] 27).alloc _).alloc _).alloc _
  have HNB : Hid (Blk W (w2.heap.size + 1) 59 [.int .i64 1, .string ⟨#[97]⟩, .int .i64 4, .int .i64 1, .int .i64 5, .bool false, .string ⟨#[]⟩, .int .i64 0, .int .i64 0]) := by rw [hW]; exact ((Blk.new_at (by simp) [.int .i64 1, .string ⟨#[97]⟩, .int .i64 4, .int .i64 1, .int .i64 5, .bool false, .string ⟨#[]⟩, .int .i64 0, .int .i64 0] 59).alloc _).alloc _
  have HPB : Hid (Blk W (w2.heap.size + 2) 24 [.slice (some ⟨w2.heap.size + 1, 0, none⟩) 1 1]) := by rw [hW]; exact (Blk.new_at (by simp) [.slice (some ⟨w2.heap.size + 1, 0, none⟩) 1 1] 24).alloc _
  have HTB : Hid (Blk W (w2.heap.size + 3) 68 [.int .i64 1, .int .i64 0, .int .i64 1, .int .i64 1, .bool false, .string ⟨#[]⟩, .int .i64 1, .int .i64 5, .bool false, .string ⟨#[]⟩]) := by rw [hW]; exact Blk.new_at (by simp) [.int .i64 1, .int .i64 0, .int .i64 1, .int .i64 1, .bool false, .string ⟨#[]⟩, .int .i64 1, .int .i64 5, .bool false, .string ⟨#[]⟩] 68
  have HPI := hide (PrIn.of_blk1 HNB.out (l := [bn1]) rfl (n := 1) (cap := 1) rfl (Nat.le_refl _) (by decide) (by decide))
  have HSI : Hid (SchIn w2 sa1 A2 v2) := hi2
  have hsz : W.heap.size = w2.heap.size + 4 := by rw [hW]; simp
  have HSZ := hide hsz
  have HNBW := HNB
  clear hi2 HNB hsz
  rw [← hW]
  clear hW
  have HTI := hide (SlAt.of_blk1 (l := [bst 5].map Sta.cells) HTB.out rfl (sta_len _))
  have t1 := fun w' [Fut W w'] [Fut w2 w'] => pstats_any [bn1] (some ⟨w2.heap.size + 1, 0, none⟩) 1 sa1 A2 v2 [bst 5] (some ⟨w2.heap.size + 3, 0, none⟩) 1 3 w' HPI.out HSI.out HTI.out (by show 1 ≤ _; decide)
  rw [bw_1] at t1
  unfold Sch.val at t1
  have T1 := hide t1; clear t1 HTI
  obtain ⟨q0, q1, q2⟩ := At.z3 (HSB.out.fut (w' := W)).at0; have lq := (HSB.out.fut (w' := W)).lt
  have p0 := At.z1 (HPB.out.fut (w' := W)).at0; have lp := (HPB.out.fut (w' := W)).lt
  go_wp2_with fail
  refine (T1.out _).mono ?_
  rintro e w3 ⟨rfl, hs3⟩
  clear q0 q1 q2 lq p0 lp T1
  have hz3 := hs3.size
  have hTB3 := HTB.out.fut (w' := w3)
  have k7 : w3.cell? ⟨w2.heap.size + 3, 7, none⟩ = some (.int .i64 5) := by simpa using hTB3.at0 7 _ rfl
  have fr := hTB3.free; have lt_ := hTB3.lt
  have HTB3 := hide hTB3
  clear hTB3
  go_upto_region 6 with (fail)
  clear k7 fr lt_
  obtain ⟨V, hV⟩ : ∃ V, V = w3.setCell ⟨w2.heap.size + 3, 7, none⟩ (.int .i64 6) := ⟨_, rfl⟩
  have SV : Step w2 V := by rw [hV]; exact ⟨(fut w2 w3).setCell (by simp) _⟩
  have HSB' : Hid (Blk V w2.heap.size 27 [.int .i64 sa1.id, .slice A2 sa1.cols.length v2, .int .i64 sa1.next]) := by rw [hV]; exact (HSB.out.fut (w' := w3)).far (by simp) _
  have HPB' : Hid (Blk V (w2.heap.size + 2) 24 [.slice (some ⟨w2.heap.size + 1, 0, none⟩) 1 1]) := by rw [hV]; exact (HPB.out.fut (w' := w3)).far (by simp) _
  have HTB' : Hid (Blk V (w2.heap.size + 3) 68 [.int .i64 1, .int .i64 0, .int .i64 1, .int .i64 1, .bool false, .string ⟨#[]⟩, .int .i64 1, .int .i64 6, .bool false, .string ⟨#[]⟩]) := by rw [hV]; exact HTB3.out.set_ 7 (.int .i64 6)
  have HNB' : Hid (Blk V (w2.heap.size + 1) 59 [.int .i64 1, .string ⟨#[97]⟩, .int .i64 4, .int .i64 1, .int .i64 5, .bool false, .string ⟨#[]⟩, .int .i64 0, .int .i64 0]) := by rw [hV]; exact (HNBW.out.fut (w' := w3)).far (by simp) _
  rw [← hV]
  clear hV HSB HPB HTB HTB3 HPI HNBW
  have HSB := HSB'; have HPB := HPB'; have HTB := HTB'
  clear HSB' HPB' HTB'
  have HPI := hide (PrIn.of_blk1 HNB'.out (l := [bn1]) rfl (n := 1) (cap := 1) rfl (Nat.le_refl _) (by decide) (by decide))
  have HTI := hide (SlAt.of_blk1 (l := [bst 6].map Sta.cells) HTB.out rfl (sta_len _))
  have t2 := fun w' [Fut V w'] [Fut w2 w'] => pstats_any [bn1] (some ⟨w2.heap.size + 1, 0, none⟩) 1 sa1 A2 v2 [bst 6] (some ⟨w2.heap.size + 3, 0, none⟩) 1 3 w' HPI.out HSI.out HTI.out (by show 1 ≤ _; decide)
  rw [bw_2] at t2
  have t3 := fun w' [Fut V w'] [Fut w2 w'] => pstats_any [bn1] (some ⟨w2.heap.size + 1, 0, none⟩) 1 sa1 A2 v2 [bst 6] (some ⟨w2.heap.size + 3, 0, none⟩) 1 (-1) w' HPI.out HSI.out HTI.out (by show 1 ≤ _; decide)
  rw [bw_3] at t3
  unfold Sch.val at t2 t3
  have T2 := hide t2; have T3 := hide t3; clear t2 t3 HTI
  obtain ⟨q0, q1, q2⟩ := At.z3 (HSB.out.fut (w' := V)).at0; have lq := (HSB.out.fut (w' := V)).lt
  have p0 := At.z1 (HPB.out.fut (w' := V)).at0; have lp := (HPB.out.fut (w' := V)).lt
  go_wp2_with fail
  refine (T2.out _).mono ?_
  rintro e w4 ⟨rfl, hs4⟩
  clear q0 q1 q2 lq p0 lp T2
  obtain ⟨q0, q1, q2⟩ := At.z3 (HSB.out.fut (w' := w4)).at0; have lq := (HSB.out.fut (w' := w4)).lt
  have p0 := At.z1 (HPB.out.fut (w' := w4)).at0; have lp := (HPB.out.fut (w' := w4)).lt
  go_wp2_with fail
  refine (T3.out _).mono ?_
  rintro e w5 ⟨rfl, hs5⟩
  clear q0 q1 q2 lq p0 lp T3
  have HFI : Hid (FsIn (w5.alloc (.cells #[.int .i64 1, .int .i64 0, .int .i64 0] 98)) [⟨1, 0, 0⟩] (some ⟨w5.heap.size, 0, none⟩) 1) := ⟨by decide, by decide, by decide, SlAt.of_blk1 (l := ([⟨1, 0, 0⟩] : List Fld).map Fld.cells) (Blk.new w5 [.int .i64 1, .int .i64 0, .int .i64 0] 98) rfl (fld_len _)⟩
  have HVI := hide (SlAt.of_blk1 (l := ([⟨1, 9, false, ⟨#[]⟩⟩] : List Val).map Val.cells) (Blk.new_at (w := w5.alloc (.cells #[.int .i64 1, .int .i64 0, .int .i64 0] 98)) (b := w5.heap.size + 1) (by simp) [.int .i64 1, .int .i64 9, .bool false, .string ⟨#[]⟩] 57) rfl (vals_fit _).len)
  have t4 := fun w' [Fut V w'] [Fut w2 w'] [Fut (w5.alloc (.cells #[.int .i64 1, .int .i64 0, .int .i64 0] 98)) w'] [Fut ((w5.alloc (.cells #[.int .i64 1, .int .i64 0, .int .i64 0] 98)).alloc (.cells #[.int .i64 1, .int .i64 9, .bool false, .string ⟨#[]⟩] 57)) w'] => pparts_any [bn1] (some ⟨w2.heap.size + 1, 0, none⟩) 1 sa1 A2 v2 0 [⟨1, 0, 0⟩] (some ⟨w5.heap.size, 0, none⟩) 1 [⟨1, 9, false, ⟨#[]⟩⟩] (some ⟨w5.heap.size + 1, 0, none⟩) 1 w' HPI.out HSI.out HFI.out HVI.out
  rw [bw_4] at t4
  unfold Sch.val at t4
  have T4 := hide t4; clear t4
  obtain ⟨q0, q1, q2⟩ := At.z3 (HSB.out.fut (w' := w5)).at0; have lq := (HSB.out.fut (w' := w5)).lt
  have p0 := At.z1 (HPB.out.fut (w' := w5)).at0; have lp := (HPB.out.fut (w' := w5)).lt
  go_wp2_with fail
  refine (T4.out _).mono ?_
  rintro e w6 ⟨rfl, hs6⟩
  clear q0 q1 q2 lq p0 lp T4
  go_wp2_with (go_at_call 18; refine (numv_any _ _).mono ?_; rintro e w' ⟨rfl, rfl⟩)
  go_ret
  exact ⟨rfl, Step.of⟩
end Go.Proofs.YtafgfehjdbomfaaDoor
