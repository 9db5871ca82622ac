/-
  The law PredTruths answers true for every two numbers.
-/
import Derived.Test.YtcgpfllkbflbhaaDoorPw
namespace Go.Proofs.YtcgpfllkbflbhaaDoor
open Go.RowKit

def sa2 : Sch := ⟨0, [⟨1, ⟨#[97]⟩, 1⟩, ⟨2, ⟨#[98]⟩, 1⟩], 3⟩
theorem new_ab : newR [⟨#[97]⟩, ⟨#[98]⟩] [1, 1] = (sa2, 0) := by kernel_rfl
def valV : Nat → Val
  | 0 => ⟨1, 0, false, ⟨#[]⟩⟩
  | 1 => ⟨1, 1, false, ⟨#[]⟩⟩
  | _ => ⟨0, 0, false, ⟨#[]⟩⟩
def nA : Nod := ⟨1, ⟨#[97]⟩, 0, ⟨1, 1, false, ⟨#[]⟩⟩, 0, 0⟩
def nB : Nod := ⟨1, ⟨#[98]⟩, 0, ⟨1, 1, false, ⟨#[]⟩⟩, 0, 0⟩
def nJ (k l r : Int) : Nod := ⟨k, ⟨#[]⟩, 0, ⟨0, 0, false, ⟨#[]⟩⟩, l, r⟩
def tAnd (x y : Nat) : Int := ([0, 0, 0, 0, 1, 2, 0, 2, 2] : List Int).getD (3 * x + y) 0
def tOr (x y : Nat) : Int := ([0, 1, 2, 1, 1, 1, 2, 1, 2] : List Int).getD (3 * x + y) 0
def tNot (y : Nat) : Int := ([1, 0, 2] : List Int).getD y 0
theorem nine {p : Nat → Nat → Prop} (h : p 0 0 ∧ p 0 1 ∧ p 0 2 ∧ p 1 0 ∧ p 1 1 ∧ p 1 2 ∧ p 2 0 ∧ p 2 1 ∧ p 2 2) {x y : Nat} (hx : x < 3) (hy : y < 3) : p x y := by
  obtain ⟨a, b, c, d, e, f, g, i, j⟩ := h
  obtain rfl | rfl | rfl : x = 0 ∨ x = 1 ∨ x = 2 := by omega
  all_goals
    obtain rfl | rfl | rfl : y = 0 ∨ y = 1 ∨ y = 2 := by omega
    all_goals assumption
theorem tt_and {x y : Nat} (hx : x < 3) (hy : y < 3) : truthR [nA, nB, nJ 4 0 1] sa2 [valV x, valV y] = (tAnd x y, 0) :=
  nine (p := fun x y => truthR [nA, nB, nJ 4 0 1] sa2 [valV x, valV y] = (tAnd x y, 0)) ⟨by kernel_rfl, by kernel_rfl, by kernel_rfl, by kernel_rfl, by kernel_rfl, by kernel_rfl, by kernel_rfl, by kernel_rfl, by kernel_rfl⟩ hx hy
theorem tt_or {x y : Nat} (hx : x < 3) (hy : y < 3) : truthR [nA, nB, nJ 5 0 1] sa2 [valV x, valV y] = (tOr x y, 0) :=
  nine (p := fun x y => truthR [nA, nB, nJ 5 0 1] sa2 [valV x, valV y] = (tOr x y, 0)) ⟨by kernel_rfl, by kernel_rfl, by kernel_rfl, by kernel_rfl, by kernel_rfl, by kernel_rfl, by kernel_rfl, by kernel_rfl, by kernel_rfl⟩ hx hy
theorem tt_not {x y : Nat} (hx : x < 3) (hy : y < 3) : truthR [nA, nB, nJ 3 1 0] sa2 [valV x, valV y] = (tNot y, 0) :=
  nine (p := fun x y => truthR [nA, nB, nJ 3 1 0] sa2 [valV x, valV y] = (tNot y, 0)) ⟨by kernel_rfl, by kernel_rfl, by kernel_rfl, by kernel_rfl, by kernel_rfl, by kernel_rfl, by kernel_rfl, by kernel_rfl, by kernel_rfl⟩ hx hy
theorem SlAt.of_blk {w : World} {g : Nat} {e : TypeId} {size : Nat} {cs : List Value} {l : List (List Value)} (h : Blk w g e cs) (he : cs = l.flatten) (hf : ∀ x ∈ l, x.length = size) : SlAt w w.heap.size size (some ⟨g, 0, none⟩) l := by
  subst he
  exact SlAt.of_at h.at0 h.lt hf
theorem PrIn.of_blk {w : World} {g : Nat} {l : List Nod} {cs : List Value} (h : Blk w g 55 cs) (he : cs = (l.map Nod.cells).flatten) {n cap : Nat} (_hn : l.length = n) (hc : n ≤ cap) (hm : cap ≤ 24) (hs : (l.all fun n => decide (n.col.size ≤ 100) && decide (n.v.s.size ≤ 100)) = true) : PrIn w l (some ⟨g, 0, none⟩) cap :=
  ⟨by omega, by omega, by omega, SlAt.of_blk h he (nods_fit l).len, fun n hn => by
    have := List.all_eq_true.1 hs n hn
    simp only [Bool.and_eq_true, decide_eq_true_eq] at this
    omega⟩
theorem val_at {w : World} {g : Nat} {x : Nat} (hx : x < 3) (h : At w g 0 [.int .i64 1, .int .i64 0, .bool false, .string ⟨#[]⟩, .int .i64 1, .int .i64 1, .bool false, .string ⟨#[]⟩, .int .i64 0, .int .i64 0, .bool false, .string ⟨#[]⟩]) : At w g (x * 4) (valV x).cells := by
  obtain rfl | rfl | rfl : x = 0 ∨ x = 1 ∨ x = 2 := by omega
  · exact h.of_take (n := 4) rfl
  · intro j u hu
    have hj : j < 4 := (List.getElem?_eq_some_iff.1 hu).1
    have := h (4 + j) u (by rw [← hu]; obtain rfl | rfl | rfl | rfl : j = 0 ∨ j = 1 ∨ j = 2 ∨ j = 3 := by omega
                            all_goals rfl)
    simpa using this
  · intro j u hu
    have hj : j < 4 := (List.getElem?_eq_some_iff.1 hu).1
    have := h (8 + j) u (by rw [← hu]; obtain rfl | rfl | rfl | rfl : j = 0 ∨ j = 1 ∨ j = 2 ∨ j = 3 := by omega
                            all_goals rfl)
    simpa using this

set_option maxRecDepth 100000 in
set_option maxHeartbeats 16000000 in
theorem truths_any (a b : Int) (w : World) :
    Calls Tryd.prog 6 #[.int .i64 a, .int .i64 b] w fun e w' => e = .returned (.bool true) ∧ Step w w' := by
  have hu0 : 0 ≤ IntKind.u64.wrap a := by rw [IntKind.wrap_u64]; omega
  have hu1 : 0 ≤ IntKind.u64.wrap b := by rw [IntKind.wrap_u64]; omega
  obtain ⟨x, hx, hx3⟩ : ∃ r : Nat, (IntKind.u64.wrap a).tmod 3 = (r : Int) ∧ r < 3 := ⟨(IntKind.u64.wrap a % 3).toNat, by rw [Int.tmod_eq_emod_of_nonneg hu0]; omega, by omega⟩
  obtain ⟨y, hy, hy3⟩ : ∃ r : Nat, (IntKind.u64.wrap b).tmod 3 = (r : Int) ∧ r < 3 := ⟨(IntKind.u64.wrap b % 3).toNat, by rw [Int.tmod_eq_emod_of_nonneg hu1]; omega, by omega⟩
  have hx0 : (0 : Int) ≤ (x : Int) := by omega
  have hx2 : (x : Int) < 3 := by omega
  have hy0 : (0 : Int) ≤ (y : Int) := by omega
  have hy2 : (y : Int) < 3 := by omega
  have hmx : (IntKind.u64.wrap a) % 3 = (x : Int) := by rw [← hx, Int.tmod_eq_emod_of_nonneg hu0]
  have hmy : (IntKind.u64.wrap b) % 3 = (y : Int) := by rw [← hy, Int.tmod_eq_emod_of_nonneg hu1]
  have hwx : IntKind.i64.wrap (x : Int) = (x : Int) := by rw [IntKind.wrap_i64]; omega
  have hwy : IntKind.i64.wrap (y : Int) = (y : Int) := by rw [IntKind.wrap_i64]; omega
  go_enter Tryd.func6, Tryd.ntmps6
  go_wp2_with fail
  refine (awake15_any _).mono ?_
  rintro e w1 ⟨rfl, hs1⟩
  have HN1 := hide (SlAt.strs2 (w := w1) rfl ⟨#[97]⟩ ⟨#[98]⟩)
  have HN2 := hide (SlAt.ints2 (w := w1.alloc (.cells #[.string ⟨#[97]⟩, .string ⟨#[98]⟩] 9)) (b := w1.heap.size + 1) (by simp) 1 1)
  have hc := fun w' [Fut (w1.alloc (.cells #[.string ⟨#[97]⟩, .string ⟨#[98]⟩] 9)) w'] [Fut ((w1.alloc (.cells #[.string ⟨#[97]⟩, .string ⟨#[98]⟩] 9)).alloc (.cells #[.int .i64 1, .int .i64 1] 3)) w'] => qnew [⟨#[97]⟩, ⟨#[98]⟩] [1, 1] (some ⟨w1.heap.size, 0, none⟩) (some ⟨w1.heap.size + 1, 0, none⟩) 2 2 w' HN1.out HN2.out (by decide) (by intro n hn; simp at hn; rcases hn with rfl | rfl <;> decide)
  rw [new_ab] at hc
  have HC := hide hc; clear hc
  go_wp2_with fail
  refine (HC.out _).mono ?_
  intro e w2 hr
  obtain ⟨A2, c2, rfl, hi2, ho2, hs2⟩ := hr
  have HSI : Hid (SchIn w2 sa2 A2 c2) := hi2
  clear HC HN1 HN2 ho2 hi2
  go_upto_region 8 with (fail)
  have HN4 : True := trivial
  obtain ⟨W, hW⟩ : ∃ W, W = ((((w2.alloc (.cells #[.int .i64 sa2.id, .slice A2 sa2.cols.length c2, .int .i64 sa2.next] 27)).alloc (.cells #[.int .i64 1, .int .i64 0, .bool false, .string ⟨#[]⟩, .int .i64 1, .int .i64 1, .bool false, .string ⟨#[]⟩, .int .i64 0, .int .i64 0, .bool false, .string ⟨#[]⟩] 53)).alloc (.cells #[.int .i64 1, .int .i64 1, .bool false, .string ⟨#[]⟩] 53)).alloc (.cells #[.int .i64 1, .string ⟨#[97]⟩, .int .i64 0, .int .i64 1, .int .i64 1, .bool false, .string ⟨#[]⟩, .int .i64 0, .int .i64 0, .int .i64 1, .string ⟨#[98]⟩, .int .i64 0, .int .i64 1, .int .i64 1, .bool false, .string ⟨#[]⟩, .int .i64 0, .int .i64 0, .int .i64 4, .string ⟨#[]⟩, .int .i64 0, .int .i64 0, .int .i64 0, .bool false, .string ⟨#[]⟩, .int .i64 0, .int .i64 1] 55)).alloc (.cells #[.slice (some ⟨w2.heap.size + 1 + 1 + 1, 0, none⟩) 3 3] 24) := ⟨_, rfl⟩
  have SW : Step w2 W := by rw [hW]; exact Step.of
  have HSB : Hid (Blk W w2.heap.size 27 [.int .i64 sa2.id, .slice A2 sa2.cols.length c2, .int .i64 sa2.next]) := by rw [hW]; exact ((((Blk.new w2 [.int .i64 sa2.id, .slice A2 sa2.cols.length c2, .int .i64 sa2.next] 27).alloc _).alloc _).alloc _).alloc _
  have HVB : Hid (Blk W (w2.heap.size + 1) 53 [.int .i64 1, .int .i64 0, .bool false, .string ⟨#[]⟩, .int .i64 1, .int .i64 1, .bool false, .string ⟨#[]⟩, .int .i64 0, .int .i64 0, .bool false, .string ⟨#[]⟩]) := by rw [hW]; exact (((Blk.new_at (by simp) [.int .i64 1, .int .i64 0, .bool false, .string ⟨#[]⟩, .int .i64 1, .int .i64 1, .bool false, .string ⟨#[]⟩, .int .i64 0, .int .i64 0, .bool false, .string ⟨#[]⟩] 53).alloc _).alloc _).alloc _
  have HNB : Hid (Blk W (w2.heap.size + 1 + 1 + 1) 55 [.int .i64 1, .string ⟨#[97]⟩, .int .i64 0, .int .i64 1, .int .i64 1, .bool false, .string ⟨#[]⟩, .int .i64 0, .int .i64 0, .int .i64 1, .string ⟨#[98]⟩, .int .i64 0, .int .i64 1, .int .i64 1, .bool false, .string ⟨#[]⟩, .int .i64 0, .int .i64 0, .int .i64 4, .string ⟨#[]⟩, .int .i64 0, .int .i64 0, .int .i64 0, .bool false, .string ⟨#[]⟩, .int .i64 0, .int .i64 1]) := by rw [hW]; exact (Blk.new_at (by simp) [.int .i64 1, .string ⟨#[97]⟩, .int .i64 0, .int .i64 1, .int .i64 1, .bool false, .string ⟨#[]⟩, .int .i64 0, .int .i64 0, .int .i64 1, .string ⟨#[98]⟩, .int .i64 0, .int .i64 1, .int .i64 1, .bool false, .string ⟨#[]⟩, .int .i64 0, .int .i64 0, .int .i64 4, .string ⟨#[]⟩, .int .i64 0, .int .i64 0, .int .i64 0, .bool false, .string ⟨#[]⟩, .int .i64 0, .int .i64 1] 55).alloc _
  have HPB : Hid (Blk W (w2.heap.size + 1 + 1 + 1 + 1) 24 [.slice (some ⟨w2.heap.size + 1 + 1 + 1, 0, none⟩) 3 3]) := by rw [hW]; exact Blk.new_at (by simp) [.slice (some ⟨w2.heap.size + 1 + 1 + 1, 0, none⟩) 3 3] 24
  have hzW : w2.heap.size + 1 + 1 + 1 + 1 < W.heap.size := by rw [hW]; simp
  rw [← hW]
  clear hW
  go_cut [12] from 50 to 59 (fun p wx => ∃ b c : Nat, p = .pointer (some ⟨b, 0, none⟩) ∧ W.heap.size ≤ b ∧ W.heap.size ≤ c ∧ Blk wx b 30 [.slice (some ⟨c, 0, none⟩) 2 2] ∧ Blk wx c 53 [.int .i64 (valV x).kind, .int .i64 (valV x).i, .bool (valV x).b, .string (valV x).s, .int .i64 (valV y).kind, .int .i64 (valV y).i, .bool (valV y).b, .string (valV y).s] ∧ Step W wx)
  case first =>
    obtain ⟨vx0, vx1, vx2, vx3⟩ := At.l4 (val_at hx3 HVB.out.at0)
    obtain ⟨vy0, vy1, vy2, vy3⟩ := At.l4 (val_at hy3 HVB.out.at0)
    have lv : w2.heap.size + 1 < W.heap.size := by omega
    clear hx hy hmx hmy hwx hwy
    go_region
    all_goals
      go_wp2_with fail
      go_meet
      case rel =>
        first
          | exact ⟨W.drew.heap.size + 1, W.drew.heap.size, rfl, by simp, by simp, Blk.new_at (by simp) [.slice (some ⟨W.drew.heap.size, 0, none⟩) 2 2] 30, (Blk.new W.drew [.int .i64 (valV x).kind, .int .i64 (valV x).i, .bool (valV x).b, .string (valV x).s, .int .i64 (valV y).kind, .int .i64 (valV y).i, .bool (valV y).b, .string (valV y).s] 53).alloc _, Step.of⟩
          | exact ⟨W.drew.heap.size, W.drew.heap.size + 1, rfl, by simp, by simp, ((Blk.new W [.slice (some ⟨W.heap.size + 1, 0, none⟩) 2 2] 30).alloc _).drew, (Blk.new_at (w := W.alloc (.cells #[.slice (some ⟨W.heap.size + 1, 0, none⟩) 2 2] 30)) (b := W.heap.size + 1) (by simp) [.int .i64 (valV x).kind, .int .i64 (valV x).i, .bool (valV x).b, .string (valV x).s, .int .i64 (valV y).kind, .int .i64 (valV y).i, .bool (valV y).b, .string (valV y).s] 53).drew, Step.of⟩
  case rest =>
    obtain ⟨b, c, rfl, hb, hc, hrb, hvb, hsc⟩ := hcut
    obtain ⟨w4, rfl⟩ : ∃ x : World, x = wc := ⟨_, rfl⟩
    have HRB := hide hrb; have HVV := hide hvb
    clear hrb hvb hmx hmy hwx hwy hx hy
    have HPI := hide (PrIn.of_blk (HNB.out.fut (w' := w4)) (l := [nA, nB, nJ 4 0 1]) rfl (n := 3) (cap := 3) rfl (Nat.le_refl _) (by decide) (by decide))
    have HVS := hide (SlAt.of_blk (l := [valV x, valV y].map Val.cells) HVV.out rfl (vals_fit _).len)
    have t1 := fun w' [Fut w4 w'] [Fut w2 w'] => ptruthR_any [nA, nB, nJ 4 0 1] (some ⟨w2.heap.size + 1 + 1 + 1, 0, none⟩) 3 sa2 A2 c2 [valV x, valV y] (some ⟨c, 0, none⟩) 2 w' HPI.out HSI.out HVS.out (by show 2 ≤ _; decide)
    rw [tt_and hx3 hy3] at t1
    unfold Sch.val at t1
    have T1 := hide t1; clear t1
    obtain ⟨q0, q1, q2⟩ := At.z3 (HSB.out.fut (w' := w4)).at0; have lq := (HSB.out.fut (w' := w4)).lt
    have p0 := At.z1 (HPB.out.fut (w' := w4)).at0; have lp := (HPB.out.fut (w' := w4)).lt
    have r0 := At.z1 HRB.out.at0; have lr := HRB.out.lt
    go_wp2_with fail
    refine (T1.out _).mono ?_
    rintro e w5 ⟨rfl, hs5⟩
    clear q0 q1 q2 lq p0 lp r0 lr T1 HPI HVS
    have n5 := HNB.out.fut (w' := w5)
    have p0 := At.z1 (HPB.out.fut (w' := w5)).at0; have lp := (HPB.out.fut (w' := w5)).lt
    have k18 : w5.cell? ⟨w2.heap.size + 1 + 1 + 1, 18, none⟩ = some (.int .i64 4) := by simpa using n5.at0 18 _ rfl
    have fn := n5.free; have ln := n5.lt
    have HN5 := hide n5; clear n5
    go_upto_region 11 with (fail)
    clear p0 lp k18 fn ln
    obtain ⟨W5, hW5⟩ : ∃ X, X = w5.setCell ⟨w2.heap.size + 1 + 1 + 1, 18, none⟩ (.int .i64 5) := ⟨_, rfl⟩
    have S5 : Step w2 W5 := by rw [hW5]; exact ⟨(fut w2 w5).setCell (by simp; omega) _⟩
    have HS5 : Hid (Blk W5 w2.heap.size 27 [.int .i64 sa2.id, .slice A2 sa2.cols.length c2, .int .i64 sa2.next]) := by rw [hW5]; exact (HSB.out.fut (w' := w5)).far (by simp; omega) _
    have HP5 : Hid (Blk W5 (w2.heap.size + 1 + 1 + 1 + 1) 24 [.slice (some ⟨w2.heap.size + 1 + 1 + 1, 0, none⟩) 3 3]) := by rw [hW5]; exact (HPB.out.fut (w' := w5)).far (by simp) _
    have HNN5 : Hid (Blk W5 (w2.heap.size + 1 + 1 + 1) 55 [.int .i64 1, .string ⟨#[97]⟩, .int .i64 0, .int .i64 1, .int .i64 1, .bool false, .string ⟨#[]⟩, .int .i64 0, .int .i64 0, .int .i64 1, .string ⟨#[98]⟩, .int .i64 0, .int .i64 1, .int .i64 1, .bool false, .string ⟨#[]⟩, .int .i64 0, .int .i64 0, .int .i64 5, .string ⟨#[]⟩, .int .i64 0, .int .i64 0, .int .i64 0, .bool false, .string ⟨#[]⟩, .int .i64 0, .int .i64 1]) := by rw [hW5]; exact HN5.out.set_ 18 (.int .i64 5)
    have HR5 : Hid (Blk W5 b 30 [.slice (some ⟨c, 0, none⟩) 2 2]) := by rw [hW5]; exact (HRB.out.fut (w' := w5)).far (by simp; omega) _
    have HV5 : Hid (Blk W5 c 53 [.int .i64 (valV x).kind, .int .i64 (valV x).i, .bool (valV x).b, .string (valV x).s, .int .i64 (valV y).kind, .int .i64 (valV y).i, .bool (valV y).b, .string (valV y).s]) := by rw [hW5]; exact (HVV.out.fut (w' := w5)).far (by simp; omega) _
    have hz5 : w5.heap.size = W5.heap.size := by rw [hW5]; simp [World.setCell]
    rw [← hW5]
    clear hW5 HSB HPB HNB HRB HVV HVB HN5
    have HPI := hide (PrIn.of_blk HNN5.out (l := [nA, nB, nJ 5 0 1]) rfl (n := 3) (cap := 3) rfl (Nat.le_refl _) (by decide) (by decide))
    have HVS := hide (SlAt.of_blk (l := [valV x, valV y].map Val.cells) HV5.out rfl (vals_fit _).len)
    have t1 := fun w' [Fut W5 w'] [Fut w2 w'] => ptruthR_any [nA, nB, nJ 5 0 1] (some ⟨w2.heap.size + 1 + 1 + 1, 0, none⟩) 3 sa2 A2 c2 [valV x, valV y] (some ⟨c, 0, none⟩) 2 w' HPI.out HSI.out HVS.out (by show 2 ≤ _; decide)
    rw [tt_or hx3 hy3] at t1
    unfold Sch.val at t1
    have T1 := hide t1; clear t1
    obtain ⟨q0, q1, q2⟩ := At.z3 HS5.out.at0; have lq := HS5.out.lt
    have p0 := At.z1 HP5.out.at0; have lp := HP5.out.lt
    have r0 := At.z1 HR5.out.at0; have lr := HR5.out.lt
    go_wp2_with fail
    refine (T1.out _).mono ?_
    rintro e w6 ⟨rfl, hs6⟩
    clear q0 q1 q2 lq p0 lp r0 lr T1 HPI HVS
    have n6 := HNN5.out.fut (w' := w6)
    have p0 := At.z1 (HP5.out.fut (w' := w6)).at0; have lp := (HP5.out.fut (w' := w6)).lt
    have k18 : w6.cell? ⟨w2.heap.size + 1 + 1 + 1, 18, none⟩ = some (.int .i64 5) := by simpa using n6.at0 18 _ rfl
    have k19 : w6.cell? ⟨w2.heap.size + 1 + 1 + 1, 19, none⟩ = some (.string ⟨#[]⟩) := by simpa using n6.at0 19 _ rfl
    have k20 : w6.cell? ⟨w2.heap.size + 1 + 1 + 1, 20, none⟩ = some (.int .i64 0) := by simpa using n6.at0 20 _ rfl
    have k21 : w6.cell? ⟨w2.heap.size + 1 + 1 + 1, 21, none⟩ = some (.int .i64 0) := by simpa using n6.at0 21 _ rfl
    have k22 : w6.cell? ⟨w2.heap.size + 1 + 1 + 1, 22, none⟩ = some (.int .i64 0) := by simpa using n6.at0 22 _ rfl
    have k23 : w6.cell? ⟨w2.heap.size + 1 + 1 + 1, 23, none⟩ = some (.bool false) := by simpa using n6.at0 23 _ rfl
    have k24 : w6.cell? ⟨w2.heap.size + 1 + 1 + 1, 24, none⟩ = some (.string ⟨#[]⟩) := by simpa using n6.at0 24 _ rfl
    have k25 : w6.cell? ⟨w2.heap.size + 1 + 1 + 1, 25, none⟩ = some (.int .i64 0) := by simpa using n6.at0 25 _ rfl
    have k26 : w6.cell? ⟨w2.heap.size + 1 + 1 + 1, 26, none⟩ = some (.int .i64 1) := by simpa using n6.at0 26 _ rfl
    have fn := n6.free; have ln := n6.lt
    have HN6 := hide n6; clear n6
    go_upto_region 13 with (fail)
    clear p0 lp k18 k19 k20 k21 k22 k23 k24 k25 k26 fn ln
    obtain ⟨W6, hW6⟩ : ∃ X, X = ((((((((w6.setCell ⟨w2.heap.size + 1 + 1 + 1, 18, none⟩ (.int .i64 3)).setCell ⟨w2.heap.size + 1 + 1 + 1, 19, none⟩ (.string ⟨#[]⟩)).setCell ⟨w2.heap.size + 1 + 1 + 1, 20, none⟩ (.int .i64 0)).setCell ⟨w2.heap.size + 1 + 1 + 1, 21, none⟩ (.int .i64 0)).setCell ⟨w2.heap.size + 1 + 1 + 1, 22, none⟩ (.int .i64 0)).setCell ⟨w2.heap.size + 1 + 1 + 1, 23, none⟩ (.bool false)).setCell ⟨w2.heap.size + 1 + 1 + 1, 24, none⟩ (.string ⟨#[]⟩)).setCell ⟨w2.heap.size + 1 + 1 + 1, 25, none⟩ (.int .i64 1)).setCell ⟨w2.heap.size + 1 + 1 + 1, 26, none⟩ (.int .i64 0) := ⟨_, rfl⟩
    have S6 : Step w2 W6 := by rw [hW6]; exact ⟨((((((((((fut w2 w6).setCell (by simp; omega) _).setCell (by simp; omega) _).setCell (by simp; omega) _).setCell (by simp; omega) _).setCell (by simp; omega) _).setCell (by simp; omega) _).setCell (by simp; omega) _).setCell (by simp; omega) _).setCell (by simp; omega) _)⟩
    have HS6 : Hid (Blk W6 w2.heap.size 27 [.int .i64 sa2.id, .slice A2 sa2.cols.length c2, .int .i64 sa2.next]) := by rw [hW6]; exact ((((((((((HS5.out.fut (w' := w6)).far (p := ⟨w2.heap.size + 1 + 1 + 1, 18, none⟩) (by simp; omega) _).far (p := ⟨w2.heap.size + 1 + 1 + 1, 19, none⟩) (by simp; omega) _).far (p := ⟨w2.heap.size + 1 + 1 + 1, 20, none⟩) (by simp; omega) _).far (p := ⟨w2.heap.size + 1 + 1 + 1, 21, none⟩) (by simp; omega) _).far (p := ⟨w2.heap.size + 1 + 1 + 1, 22, none⟩) (by simp; omega) _).far (p := ⟨w2.heap.size + 1 + 1 + 1, 23, none⟩) (by simp; omega) _).far (p := ⟨w2.heap.size + 1 + 1 + 1, 24, none⟩) (by simp; omega) _).far (p := ⟨w2.heap.size + 1 + 1 + 1, 25, none⟩) (by simp; omega) _).far (p := ⟨w2.heap.size + 1 + 1 + 1, 26, none⟩) (by simp; omega) _)
    have HP6 : Hid (Blk W6 (w2.heap.size + 1 + 1 + 1 + 1) 24 [.slice (some ⟨w2.heap.size + 1 + 1 + 1, 0, none⟩) 3 3]) := by rw [hW6]; exact ((((((((((HP5.out.fut (w' := w6)).far (p := ⟨w2.heap.size + 1 + 1 + 1, 18, none⟩) (by simp) _).far (p := ⟨w2.heap.size + 1 + 1 + 1, 19, none⟩) (by simp) _).far (p := ⟨w2.heap.size + 1 + 1 + 1, 20, none⟩) (by simp) _).far (p := ⟨w2.heap.size + 1 + 1 + 1, 21, none⟩) (by simp) _).far (p := ⟨w2.heap.size + 1 + 1 + 1, 22, none⟩) (by simp) _).far (p := ⟨w2.heap.size + 1 + 1 + 1, 23, none⟩) (by simp) _).far (p := ⟨w2.heap.size + 1 + 1 + 1, 24, none⟩) (by simp) _).far (p := ⟨w2.heap.size + 1 + 1 + 1, 25, none⟩) (by simp) _).far (p := ⟨w2.heap.size + 1 + 1 + 1, 26, none⟩) (by simp) _)
    have HNN6 : Hid (Blk W6 (w2.heap.size + 1 + 1 + 1) 55 [.int .i64 1, .string ⟨#[97]⟩, .int .i64 0, .int .i64 1, .int .i64 1, .bool false, .string ⟨#[]⟩, .int .i64 0, .int .i64 0, .int .i64 1, .string ⟨#[98]⟩, .int .i64 0, .int .i64 1, .int .i64 1, .bool false, .string ⟨#[]⟩, .int .i64 0, .int .i64 0, .int .i64 3, .string ⟨#[]⟩, .int .i64 0, .int .i64 0, .int .i64 0, .bool false, .string ⟨#[]⟩, .int .i64 1, .int .i64 0]) := by rw [hW6]; exact (((((((((HN6.out.set_ 18 (.int .i64 3)).set_ 19 (.string ⟨#[]⟩)).set_ 20 (.int .i64 0)).set_ 21 (.int .i64 0)).set_ 22 (.int .i64 0)).set_ 23 (.bool false)).set_ 24 (.string ⟨#[]⟩)).set_ 25 (.int .i64 1)).set_ 26 (.int .i64 0))
    have HR6 : Hid (Blk W6 b 30 [.slice (some ⟨c, 0, none⟩) 2 2]) := by rw [hW6]; exact ((((((((((HR5.out.fut (w' := w6)).far (p := ⟨w2.heap.size + 1 + 1 + 1, 18, none⟩) (by simp; omega) _).far (p := ⟨w2.heap.size + 1 + 1 + 1, 19, none⟩) (by simp; omega) _).far (p := ⟨w2.heap.size + 1 + 1 + 1, 20, none⟩) (by simp; omega) _).far (p := ⟨w2.heap.size + 1 + 1 + 1, 21, none⟩) (by simp; omega) _).far (p := ⟨w2.heap.size + 1 + 1 + 1, 22, none⟩) (by simp; omega) _).far (p := ⟨w2.heap.size + 1 + 1 + 1, 23, none⟩) (by simp; omega) _).far (p := ⟨w2.heap.size + 1 + 1 + 1, 24, none⟩) (by simp; omega) _).far (p := ⟨w2.heap.size + 1 + 1 + 1, 25, none⟩) (by simp; omega) _).far (p := ⟨w2.heap.size + 1 + 1 + 1, 26, none⟩) (by simp; omega) _)
    have HV6 : Hid (Blk W6 c 53 [.int .i64 (valV x).kind, .int .i64 (valV x).i, .bool (valV x).b, .string (valV x).s, .int .i64 (valV y).kind, .int .i64 (valV y).i, .bool (valV y).b, .string (valV y).s]) := by rw [hW6]; exact ((((((((((HV5.out.fut (w' := w6)).far (p := ⟨w2.heap.size + 1 + 1 + 1, 18, none⟩) (by simp; omega) _).far (p := ⟨w2.heap.size + 1 + 1 + 1, 19, none⟩) (by simp; omega) _).far (p := ⟨w2.heap.size + 1 + 1 + 1, 20, none⟩) (by simp; omega) _).far (p := ⟨w2.heap.size + 1 + 1 + 1, 21, none⟩) (by simp; omega) _).far (p := ⟨w2.heap.size + 1 + 1 + 1, 22, none⟩) (by simp; omega) _).far (p := ⟨w2.heap.size + 1 + 1 + 1, 23, none⟩) (by simp; omega) _).far (p := ⟨w2.heap.size + 1 + 1 + 1, 24, none⟩) (by simp; omega) _).far (p := ⟨w2.heap.size + 1 + 1 + 1, 25, none⟩) (by simp; omega) _).far (p := ⟨w2.heap.size + 1 + 1 + 1, 26, none⟩) (by simp; omega) _)
    rw [← hW6]
    clear hW6 HS5 HP5 HNN5 HR5 HV5 HN6
    have HPI := hide (PrIn.of_blk HNN6.out (l := [nA, nB, nJ 3 1 0]) rfl (n := 3) (cap := 3) rfl (Nat.le_refl _) (by decide) (by decide))
    have HVS := hide (SlAt.of_blk (l := [valV x, valV y].map Val.cells) HV6.out rfl (vals_fit _).len)
    have t1 := fun w' [Fut W6 w'] [Fut w2 w'] => ptruthR_any [nA, nB, nJ 3 1 0] (some ⟨w2.heap.size + 1 + 1 + 1, 0, none⟩) 3 sa2 A2 c2 [valV x, valV y] (some ⟨c, 0, none⟩) 2 w' HPI.out HSI.out HVS.out (by show 2 ≤ _; decide)
    rw [tt_not hx3 hy3] at t1
    unfold Sch.val at t1
    have T1 := hide t1; clear t1
    obtain ⟨q0, q1, q2⟩ := At.z3 HS6.out.at0; have lq := HS6.out.lt
    have p0 := At.z1 HP6.out.at0; have lp := HP6.out.lt
    have r0 := At.z1 HR6.out.at0; have lr := HR6.out.lt
    go_wp2_with fail
    refine (T1.out _).mono ?_
    rintro e w7 ⟨rfl, hs7⟩
    clear q0 q1 q2 lq p0 lp r0 lr T1 HPI HVS
    go_upto_region 17 with (fail)
    obtain ⟨W7, hW7⟩ : ∃ X, X = ((w7.alloc (.cells #[.int .i64 0, .int .i64 0, .int .i64 0, .int .i64 0, .int .i64 1, .int .i64 2, .int .i64 0, .int .i64 2, .int .i64 2] 3)).alloc (.cells #[.int .i64 0, .int .i64 1, .int .i64 2, .int .i64 1, .int .i64 1, .int .i64 1, .int .i64 2, .int .i64 1, .int .i64 2] 3)).alloc (.cells #[.int .i64 1, .int .i64 0, .int .i64 2] 3) := ⟨_, rfl⟩
    have S7 : Step w7 W7 := by rw [hW7]; exact Step.of
    have hA : W7.cell? ⟨w7.heap.size, 3 * x + y, none⟩ = some (.int .i64 (tAnd x y)) := by
      have h : Blk W7 w7.heap.size 3 [.int .i64 0, .int .i64 0, .int .i64 0, .int .i64 0, .int .i64 1, .int .i64 2, .int .i64 0, .int .i64 2, .int .i64 2] := by rw [hW7]; exact ((Blk.new w7 [.int .i64 0, .int .i64 0, .int .i64 0, .int .i64 0, .int .i64 1, .int .i64 2, .int .i64 0, .int .i64 2, .int .i64 2] 3).alloc _).alloc _
      have := h.at0 (3 * x + y) (.int .i64 (tAnd x y)) (nine (p := fun x y => ([.int .i64 0, .int .i64 0, .int .i64 0, .int .i64 0, .int .i64 1, .int .i64 2, .int .i64 0, .int .i64 2, .int .i64 2] : List Value)[3 * x + y]? = some (.int .i64 (tAnd x y))) ⟨rfl, rfl, rfl, rfl, rfl, rfl, rfl, rfl, rfl⟩ hx3 hy3)
      simpa using this
    have hO : W7.cell? ⟨w7.heap.size + 1, 3 * x + y, none⟩ = some (.int .i64 (tOr x y)) := by
      have h : Blk W7 (w7.heap.size + 1) 3 [.int .i64 0, .int .i64 1, .int .i64 2, .int .i64 1, .int .i64 1, .int .i64 1, .int .i64 2, .int .i64 1, .int .i64 2] := by rw [hW7]; exact (Blk.new_at (by simp) [.int .i64 0, .int .i64 1, .int .i64 2, .int .i64 1, .int .i64 1, .int .i64 1, .int .i64 2, .int .i64 1, .int .i64 2] 3).alloc _
      have := h.at0 (3 * x + y) (.int .i64 (tOr x y)) (nine (p := fun x y => ([.int .i64 0, .int .i64 1, .int .i64 2, .int .i64 1, .int .i64 1, .int .i64 1, .int .i64 2, .int .i64 1, .int .i64 2] : List Value)[3 * x + y]? = some (.int .i64 (tOr x y))) ⟨rfl, rfl, rfl, rfl, rfl, rfl, rfl, rfl, rfl⟩ hx3 hy3)
      simpa using this
    have hN : W7.cell? ⟨w7.heap.size + 1 + 1, y, none⟩ = some (.int .i64 (tNot y)) := by
      have h : Blk W7 (w7.heap.size + 1 + 1) 3 [.int .i64 1, .int .i64 0, .int .i64 2] := by rw [hW7]; exact Blk.new_at (by simp) [.int .i64 1, .int .i64 0, .int .i64 2] 3
      have := h.at0 y (.int .i64 (tNot y)) (nine (p := fun x y => ([.int .i64 1, .int .i64 0, .int .i64 2] : List Value)[y]? = some (.int .i64 (tNot y))) ⟨rfl, rfl, rfl, rfl, rfl, rfl, rfl, rfl, rfl⟩ hx3 hy3)
      simpa using this
    have hz7 : w7.heap.size + 1 + 1 < W7.heap.size := by rw [hW7]; simp
    rw [← hW7]
    clear hW7
    have hi0 : (0 : Int) ≤ 3 * (x : Int) + (y : Int) := by omega
    have hi9 : 3 * (x : Int) + (y : Int) < 9 := by omega
    have hin : (3 * (x : Int) + (y : Int)).toNat = 3 * x + y := by omega
    have lz1 : w7.heap.size < W7.heap.size := by omega
    have lz2 : w7.heap.size + 1 < W7.heap.size := by omega
    go_wp2_with (go_at_call 20; refine (numv_any _ _).mono ?_; rintro e w' ⟨rfl, rfl⟩)
    go_ret
    exact ⟨rfl, Step.of⟩
end Go.Proofs.YtcgpfllkbflbhaaDoor
