/-
  The law PruneBounds answers true for every input.
-/
import Derived.Test.YtcgpfllkbflbhaaDoorTg
namespace Go.Proofs.YtcgpfllkbflbhaaDoor
open Go.RowKit

theorem and_bd2 (x : Int) (m : Nat) (hm : (BitVec.ofInt 64 (m : Int)).toNat = m) (h : m < 4096) : 0 ≤ bits .and .i64 x m ∧ bits .and .i64 x m ≤ m := by
  have h1 : ((BitVec.ofInt 64 x) &&& (BitVec.ofInt 64 (m : Int))).toNat ≤ m := by
    rw [BitVec.toNat_and, hm]
    exact Nat.and_le_right
  obtain ⟨r, hr⟩ : ∃ r, ((BitVec.ofInt 64 x) &&& (BitVec.ofInt 64 (m : Int))).toNat = r := ⟨_, rfl⟩
  have e : bits .and .i64 x m = IntKind.i64.wrap (r : Int) := by rw [← hr]; rfl
  rw [hr] at h1
  rw [e, IntKind.wrap_i64]
  omega
def cmpI (c x : Int) : Nod := ⟨1, ⟨#[97]⟩, c, ⟨1, x, false, ⟨#[]⟩⟩, 0, 0⟩
def nulI : Nod := ⟨2, ⟨#[97]⟩, 0, ⟨0, 0, false, ⟨#[]⟩⟩, 0, 0⟩
def bstN (a b n : Int) : Sta := ⟨1, n, ⟨1, a, false, ⟨#[]⟩⟩, ⟨1, b, false, ⟨#[]⟩⟩⟩
def wantB (c a b x : Int) : Bool := if c = 0 then decide (a ≤ x) && decide (x ≤ b) else if c = 1 then x != a || x != b else if c = 2 then decide (a < x) else if c = 3 then decide (a ≤ x) else if c = 4 then decide (x < b) else decide (x ≤ b)
theorem less_int (a x : Int) (p q : Bool) (u v : ByteArray) : lessV ⟨1, a, p, u⟩ ⟨1, x, q, v⟩ = decide (a < x) := by
  simp [lessV, kindV]
theorem clean_int (a : Int) : clean ⟨1, a, false, ⟨#[]⟩⟩ = ⟨1, a, false, .empty⟩ := rfl
theorem some_int {c : Int} (a b x : Int) (h0 : 0 ≤ c) (h5 : c ≤ 5) : someB c (clean ⟨1, a, false, ⟨#[]⟩⟩) (clean ⟨1, b, false, ⟨#[]⟩⟩) ⟨1, x, false, ⟨#[]⟩⟩ = wantB c a b x := by
  rw [clean_int, clean_int]
  have nd : ∀ p q : Int, (!decide (p < q)) = decide (q ≤ p) := by intro p q; rw [Bool.eq_iff_iff]; simp
  have : c = 0 ∨ c = 1 ∨ c = 2 ∨ c = 3 ∨ c = 4 ∨ c = 5 := by omega
  rcases this with rfl | rfl | rfl | rfl | rfl | rfl
  · simp [someB, standB, wantB, less_int, nd]
  · simp only [someB, standB, wantB, less_int]
    have e : ∀ p q : Int, (decide (p < q) || decide (q < p)) = (q != p) := by
      intro p q
      rw [Bool.eq_iff_iff]
      simp only [Bool.or_eq_true, decide_eq_true_eq, bne_iff_ne, ne_eq]
      omega
    simp [e]
  · simp [someB, standB, wantB, less_int]
  · simp [someB, standB, wantB, less_int, nd]
  · simp [someB, standB, wantB, less_int]
  · simp [someB, standB, wantB, less_int, nd]
theorem sa_find : idx (named ⟨#[97]⟩) sa1.cols = 0 := by kernel_rfl
theorem sa_at : sa1.cols.findIdx (named ⟨#[97]⟩) = 0 := by kernel_rfl
theorem sa_may : mayB sa1 = true := by kernel_rfl
theorem cmpI_check {c x : Int} (hc : 0 ≤ c ∧ c ≤ 5) : checkE [cmpI c x] sa1 = 0 := by
  have hp : predB [cmpI c x] = true := by
    refine predB_iff.2 ⟨by simp, fun i n hn => ?_⟩
    cases i with
    | zero =>
      simp at hn
      subst hn
      have : (⟨#[]⟩ : ByteArray).size ≤ 64 := by decide
      simp [nodB, cmpI, kindB, hc.1, hc.2]
    | succ i => simp at hn
  rw [checkE, if_pos ⟨hp, sa_may⟩, firstE, firstE]
  have h0 : nodE sa1 (cmpI c x) = 0 := by
    rw [nodE_kind (j := 0) rfl sa_find (by show 0 < 1; decide), if_pos]
    rfl
  rw [if_neg (by simp [h0])]
theorem bnd_stats {n : Nod} (a b k : Int) (h : checkE [n] sa1 = 0) (hk : n.kind = 1 ∨ n.kind = 2) (hcol : n.col = ⟨#[97]⟩) (h0 : 0 ≤ k) (h5 : k ≤ 5) : statsR [n] sa1 [bstN a b k] 5 = ((toldS n (bstN a b k) 5).testBit 1, 0) := by
  have hany : [bstN a b k].any (outOf 5) = false := by
    simp [outOf, bstN]; omega
  rw [statsR, if_neg (by simpa using h), if_neg (by rw [hany]; decide), if_neg (by decide)]
  have e : evalW (leafStat sa1 [bstN a b k] 5) [n] = [stepW (leafStat sa1 [bstN a b k] 5) [] n] := rfl
  have hnd : nodId sa1 n = 1 := by rw [nodId, hcol, sa_at]; rfl
  have hfi : [bstN a b k].findIdx (statOf 1) = 0 := by simp [List.findIdx_cons, statOf, bstN]
  have hix : idx (statOf 1) [bstN a b k] = 0 := by rw [idx, hfi]; rfl
  rw [walkB, e, stepW_leaf hk]
  show ((leafStat sa1 [bstN a b k] 5 n).testBit 1, 0) = _
  rw [leafStat, hnd, hix, if_pos (by decide), hfi]
  rfl
theorem bnd_1 {a b c x : Int} (hc : 0 ≤ c ∧ c ≤ 5) : statsR [cmpI c x] sa1 [bstN a b 0] 5 = (wantB c a b x, 0) := by
  rw [bnd_stats a b 0 (cmpI_check hc) (.inl rfl) rfl (by decide) (by decide)]
  have e : toldS (cmpI c x) (bstN a b 0) 5 = orS (orS (bitS (decide ((0 : Int) < 0)) 4) (bitS (someB c (clean ⟨1, a, false, ⟨#[]⟩⟩) (clean ⟨1, b, false, ⟨#[]⟩⟩) ⟨1, x, false, ⟨#[]⟩⟩) 2)) (bitS (someB (oppC c) (clean ⟨1, a, false, ⟨#[]⟩⟩) (clean ⟨1, b, false, ⟨#[]⟩⟩) ⟨1, x, false, ⟨#[]⟩⟩) 1) := by
    unfold toldS
    rw [if_neg (show ¬ (cmpI c x).kind = 2 from (show ¬ (1 : Int) = 2 by decide)), if_pos (show (bstN a b 0).nulls < 5 from (show (0 : Int) < 5 by decide))]
    rfl
  rw [e, some_int a b x hc.1 hc.2]
  generalize wantB c a b x = y
  generalize someB (oppC c) (clean ⟨1, a, false, ⟨#[]⟩⟩) (clean ⟨1, b, false, ⟨#[]⟩⟩) ⟨1, x, false, ⟨#[]⟩⟩ = z
  cases y <;> cases z <;> decide
theorem bnd_2 {a b c x : Int} (hc : 0 ≤ c ∧ c ≤ 5) : statsR [cmpI c x] sa1 [bstN a b 5] 5 = (false, 0) := by
  rw [bnd_stats a b 5 (cmpI_check hc) (.inl rfl) rfl (by decide) (by decide)]
  have e : toldS (cmpI c x) (bstN a b 5) 5 = bitS (decide ((0 : Int) < 5)) 4 := by
    unfold toldS
    rw [if_neg (show ¬ (cmpI c x).kind = 2 from (show ¬ (1 : Int) = 2 by decide)), if_neg (show ¬ (bstN a b 5).nulls < 5 from (show ¬ (5 : Int) < 5 by decide))]
    rfl
  rw [e]
  decide
theorem bnd_3 {a b : Int} : statsR [nulI] sa1 [bstN a b 5] 5 = (true, 0) := by
  rw [bnd_stats a b 5 (show checkE [nulI] sa1 = 0 by kernel_rfl) (.inr rfl) rfl (by decide) (by decide)]
  have e : toldS nulI (bstN a b 5) 5 = orS (bitS (decide ((0 : Int) < 5)) 2) (bitS (decide ((5 : Int) < 5)) 1) := by
    unfold toldS
    rw [if_pos (show nulI.kind = 2 from rfl)]
    rfl
  rw [e]
  decide

set_option maxRecDepth 100000 in
set_option maxHeartbeats 16000000 in
theorem pbounds_any (lo wide v cmp : Int) (w : World) : Calls Tryd.prog 9 #[.int .i64 lo, .int .i64 wide, .int .i64 v, .int .i64 cmp] w fun e w' => e = .returned (.bool true) ∧ Step w w' := by
  have hu0 : 0 ≤ IntKind.u64.wrap cmp := by rw [IntKind.wrap_u64]; omega
  obtain ⟨c, hcT, hc0, hc5⟩ : ∃ c : Int, (IntKind.u64.wrap cmp).tmod 6 = c ∧ 0 ≤ c ∧ c ≤ 5 := ⟨_, rfl, by rw [Int.tmod_eq_emod_of_nonneg hu0]; omega, by rw [Int.tmod_eq_emod_of_nonneg hu0]; omega⟩
  have hcM : (IntKind.u64.wrap cmp) % 6 = c := by rw [← hcT, Int.tmod_eq_emod_of_nonneg hu0]
  have hcw : IntKind.i64.wrap c = c := by rw [IntKind.wrap_i64]; omega
  obtain ⟨a, haT, ha0, ha1⟩ : ∃ a : Int, lo.tmod 1000 = a ∧ -1000 < a ∧ a < 1000 := ⟨_, rfl, by have := Int.lt_tmod_of_pos lo (show (0 : Int) < 1000 by decide); omega, by have := Int.tmod_lt_of_pos lo (show (0 : Int) < 1000 by decide); omega⟩
  obtain ⟨x, hxT, hx0, hx1⟩ : ∃ x : Int, v.tmod 1100 = x ∧ -1100 < x ∧ x < 1100 := ⟨_, rfl, by have := Int.lt_tmod_of_pos v (show (0 : Int) < 1100 by decide); omega, by have := Int.tmod_lt_of_pos v (show (0 : Int) < 1100 by decide); omega⟩
  have hab := and_bd2 wide 63 (by decide) (by decide)
  rw [show ((63 : Nat) : Int) = 63 from rfl] at hab
  obtain ⟨d, hd⟩ : ∃ d, bits .and .i64 wide 63 = d := ⟨_, rfl⟩
  rw [hd] at hab
  have hdw : IntKind.i64.wrap (a + d) = a + d := by rw [IntKind.wrap_i64]; omega
  go_enter Tryd.func9, Tryd.ntmps9
  go_wp2_with fail
  refine (awake18_any _).mono ?_
  rintro e w1 ⟨rfl, hs1⟩
  have HN1 := hide (SlAt.strs1 (w := w1) rfl ⟨#[97]⟩)
  have HN2 := hide (SlAt.ints1 (w := w1.alloc (.cells #[.string ⟨#[97]⟩] 9)) (b := w1.heap.size + 1) (by simp) 1)
  have hc := fun w' [Fut (w1.alloc (.cells #[.string ⟨#[97]⟩] 9)) w'] [Fut ((w1.alloc (.cells #[.string ⟨#[97]⟩] 9)).alloc (.cells #[.int .i64 1] 3)) w'] => qnew [⟨#[97]⟩] [1] (some ⟨w1.heap.size, 0, none⟩) (some ⟨w1.heap.size + 1, 0, none⟩) 1 1 w' HN1.out HN2.out (by decide) (by intro n hn; simp at hn; rw [hn]; decide)
  rw [new_a] at hc
  have HC := hide hc; clear hc
  go_wp2_with fail
  refine (HC.out _).mono ?_
  intro e w2 hr
  obtain ⟨A2, v2, rfl, hi2, ho2, hs2⟩ := hr
  clear HC HN1 HN2 ho2
  go_upto_region 9 with (fail)
  obtain ⟨b, hb, hb0, hb1⟩ : ∃ b : Int, a + d = b ∧ -1000 < b ∧ b < 1100 := ⟨_, rfl, by omega, by omega⟩
  (try rw [hb])
  clear hab hd hdw hb haT hxT hcT hcM hu0
  obtain ⟨W, hW⟩ : ∃ W, W = (w2.alloc (.cells #[.int .i64 sa1.id, .slice A2 sa1.cols.length v2, .int .i64 sa1.next] 27)).alloc (.cells #[.int .i64 1, .int .i64 0, .int .i64 1, .int .i64 a, .bool false, .string ⟨#[]⟩, .int .i64 1, .int .i64 b, .bool false, .string ⟨#[]⟩] 71) := ⟨_, rfl⟩
  have SW : Step w2 W := by rw [hW]; exact Step.of
  have HSB : Hid (Blk W w2.heap.size 27 [.int .i64 sa1.id, .slice A2 sa1.cols.length v2, .int .i64 sa1.next]) := by rw [hW]; exact (Blk.new w2 [.int .i64 sa1.id, .slice A2 sa1.cols.length v2, .int .i64 sa1.next] 27).alloc _
  have HTB : Hid (Blk W (w2.heap.size + 1) 71 [.int .i64 1, .int .i64 0, .int .i64 1, .int .i64 a, .bool false, .string ⟨#[]⟩, .int .i64 1, .int .i64 b, .bool false, .string ⟨#[]⟩]) := by rw [hW]; exact Blk.new_at (by simp) [.int .i64 1, .int .i64 0, .int .i64 1, .int .i64 a, .bool false, .string ⟨#[]⟩, .int .i64 1, .int .i64 b, .bool false, .string ⟨#[]⟩] 71
  have HSI : Hid (SchIn w2 sa1 A2 v2) := hi2
  clear hi2
  rw [← hW]
  clear hW
  have HTI := hide (SlAt.of_blk1 (l := [bstN a b 0].map Sta.cells) HTB.out rfl (sta_len _))
  have HPI : Hid (PrIn (W.alloc (.cells #[.int .i64 1, .string ⟨#[97]⟩, .int .i64 c, .int .i64 1, .int .i64 x, .bool false, .string ⟨#[]⟩, .int .i64 0, .int .i64 0] 55)) [cmpI c x] (some ⟨W.heap.size, 0, none⟩) 1) := ⟨Nat.le_refl 1, by decide, (by simp), SlAt.of_blk1 (Blk.new W [.int .i64 1, .string ⟨#[97]⟩, .int .i64 c, .int .i64 1, .int .i64 x, .bool false, .string ⟨#[]⟩, .int .i64 0, .int .i64 0] 55) rfl (nods_fit _).len, fun n hn => by simp at hn; rw [hn]; exact ⟨(show (1 : Nat) ≤ 9223372036854775807 by decide), (show (0 : Nat) ≤ 9223372036854775807 by decide)⟩⟩
  have t1 := fun w' [Fut (W.alloc (.cells #[.int .i64 1, .string ⟨#[97]⟩, .int .i64 c, .int .i64 1, .int .i64 x, .bool false, .string ⟨#[]⟩, .int .i64 0, .int .i64 0] 55)) w'] [Fut w2 w'] [Fut W w'] => pstats_any [cmpI c x] (some ⟨W.heap.size, 0, none⟩) 1 sa1 A2 v2 [bstN a b 0] (some ⟨w2.heap.size + 1, 0, none⟩) 1 5 w' HPI.out HSI.out HTI.out (by show 1 ≤ _; decide)
  rw [bnd_1 ⟨hc0, hc5⟩] at t1
  unfold Sch.val at t1
  have T1 := hide t1; clear t1
  obtain ⟨q0, q1, q2⟩ := At.z3 (HSB.out.fut (w' := W)).at0; have lq := (HSB.out.fut (w' := W)).lt
  go_wp2_with fail
  refine (T1.out _).mono ?_
  rintro e w3 ⟨rfl, hs_w3⟩
  clear q0 q1 q2 lq T1 HPI
  clear HTI
  go_upto_region 10 with (fail)
  obtain ⟨q, hq⟩ : ∃ q, wantB c a b x = q := ⟨_, rfl⟩
  have HQ := hide hq
  rw [hq]
  clear hq
  go_cut [18] from 61 to 92 (fun y wx => y = .bool q ∧ Step w3 wx)
  case first =>
    have h6 : c = 0 ∨ c = 1 ∨ c = 2 ∨ c = 3 ∨ c = 4 ∨ c = 5 := by omega
    have h3 : x < a ∨ x = a ∨ a < x := by omega
    rcases h3 with h3 | h3 | h3
    · have x1 : ¬ a ≤ x := by omega
      have x2 : (x != a) = true := by simp; omega
      have x3 : ¬ a < x := by omega
      have HX := hide h3
      clear h3
      rcases h6 with rfl | rfl | rfl | rfl | rfl | rfl
      all_goals
        go_wp2_with fail
        go_meet
        case rel => exact ⟨by rw [← HQ.out]; simp [wantB] <;> (have := HX.out; omega), Step.of⟩
    · subst h3
      rcases h6 with rfl | rfl | rfl | rfl | rfl | rfl
      all_goals
        go_wp2_with fail
        go_meet
        case rel => exact ⟨by rw [← HQ.out]; simp [wantB], Step.of⟩
    · have x1 : a ≤ x := by omega
      have x2 : (x != a) = true := by simp; omega
      have HX := hide h3
      rcases h6 with rfl | rfl | rfl | rfl | rfl | rfl
      all_goals
        go_wp2_with fail
        go_meet
        case rel => exact ⟨by rw [← HQ.out]; simp [wantB] <;> (have := HX.out; omega), Step.of⟩
  case rest =>
    obtain ⟨rfl, hs4⟩ := hcut
    obtain ⟨w4, rfl⟩ : ∃ x : World, x = wc := ⟨_, rfl⟩
    have hz3 := hs_w3.size
    have hTB3 := HTB.out.fut (w' := w4)
    have k1 : w4.cell? ⟨w2.heap.size + 1, 1, none⟩ = some (.int .i64 0) := by simpa using hTB3.at0 1 _ rfl
    have fr := hTB3.free; have lt_ := hTB3.lt
    have HTB3 := hide hTB3
    clear hTB3
    go_upto_region 12 with (fail)
    clear k1 fr lt_
    obtain ⟨V, hV⟩ : ∃ V, V = w4.setCell ⟨w2.heap.size + 1, 1, none⟩ (.int .i64 5) := ⟨_, rfl⟩
    have SV : Step w2 V := by rw [hV]; exact ⟨(fut w2 w4).setCell (by simp) _⟩
    have HSB' : Hid (Blk V w2.heap.size 27 [.int .i64 sa1.id, .slice A2 sa1.cols.length v2, .int .i64 sa1.next]) := by rw [hV]; exact (HSB.out.fut (w' := w4)).far (by simp) _
    have HTB' : Hid (Blk V (w2.heap.size + 1) 71 [.int .i64 1, .int .i64 5, .int .i64 1, .int .i64 a, .bool false, .string ⟨#[]⟩, .int .i64 1, .int .i64 b, .bool false, .string ⟨#[]⟩]) := by rw [hV]; exact HTB3.out.set_ 1 (.int .i64 5)
    rw [← hV]
    clear hV HSB HTB HTB3
    have HSB := HSB'; have HTB := HTB'
    clear HSB' HTB'
    have HTI := hide (SlAt.of_blk1 (l := [bstN a b 5].map Sta.cells) HTB.out rfl (sta_len _))
    have HPI : Hid (PrIn (V.alloc (.cells #[.int .i64 1, .string ⟨#[97]⟩, .int .i64 c, .int .i64 1, .int .i64 x, .bool false, .string ⟨#[]⟩, .int .i64 0, .int .i64 0] 55)) [cmpI c x] (some ⟨V.heap.size, 0, none⟩) 1) := ⟨Nat.le_refl 1, by decide, (by simp), SlAt.of_blk1 (Blk.new V [.int .i64 1, .string ⟨#[97]⟩, .int .i64 c, .int .i64 1, .int .i64 x, .bool false, .string ⟨#[]⟩, .int .i64 0, .int .i64 0] 55) rfl (nods_fit _).len, fun n hn => by simp at hn; rw [hn]; exact ⟨(show (1 : Nat) ≤ 9223372036854775807 by decide), (show (0 : Nat) ≤ 9223372036854775807 by decide)⟩⟩
    have t1 := fun w' [Fut (V.alloc (.cells #[.int .i64 1, .string ⟨#[97]⟩, .int .i64 c, .int .i64 1, .int .i64 x, .bool false, .string ⟨#[]⟩, .int .i64 0, .int .i64 0] 55)) w'] [Fut w2 w'] [Fut V w'] => pstats_any [cmpI c x] (some ⟨V.heap.size, 0, none⟩) 1 sa1 A2 v2 [bstN a b 5] (some ⟨w2.heap.size + 1, 0, none⟩) 1 5 w' HPI.out HSI.out HTI.out (by show 1 ≤ _; decide)
    rw [bnd_2 ⟨hc0, hc5⟩] at t1
    unfold Sch.val at t1
    have T1 := hide t1; clear t1
    obtain ⟨q0, q1, q2⟩ := At.z3 (HSB.out.fut (w' := V)).at0; have lq := (HSB.out.fut (w' := V)).lt
    go_wp2_with fail
    refine (T1.out _).mono ?_
    rintro e w5 ⟨rfl, hs_w5⟩
    clear q0 q1 q2 lq T1 HPI
    have HPI : Hid (PrIn (w5.alloc (.cells #[.int .i64 2, .string ⟨#[97]⟩, .int .i64 0, .int .i64 0, .int .i64 0, .bool false, .string ⟨#[]⟩, .int .i64 0, .int .i64 0] 55)) [nulI] (some ⟨w5.heap.size, 0, none⟩) 1) := ⟨Nat.le_refl 1, by decide, (by simp), SlAt.of_blk1 (Blk.new w5 [.int .i64 2, .string ⟨#[97]⟩, .int .i64 0, .int .i64 0, .int .i64 0, .bool false, .string ⟨#[]⟩, .int .i64 0, .int .i64 0] 55) rfl (nods_fit _).len, fun n hn => by simp at hn; rw [hn]; exact ⟨(show (1 : Nat) ≤ 9223372036854775807 by decide), (show (0 : Nat) ≤ 9223372036854775807 by decide)⟩⟩
    have t1 := fun w' [Fut (w5.alloc (.cells #[.int .i64 2, .string ⟨#[97]⟩, .int .i64 0, .int .i64 0, .int .i64 0, .bool false, .string ⟨#[]⟩, .int .i64 0, .int .i64 0] 55)) w'] [Fut w2 w'] [Fut V w'] => pstats_any [nulI] (some ⟨w5.heap.size, 0, none⟩) 1 sa1 A2 v2 [bstN a b 5] (some ⟨w2.heap.size + 1, 0, none⟩) 1 5 w' HPI.out HSI.out HTI.out (by show 1 ≤ _; decide)
    rw [bnd_3] at t1
    unfold Sch.val at t1
    have T1 := hide t1; clear t1
    obtain ⟨q0, q1, q2⟩ := At.z3 (HSB.out.fut (w' := w5)).at0; have lq := (HSB.out.fut (w' := w5)).lt
    go_wp2_with fail
    refine (T1.out _).mono ?_
    rintro e w6 ⟨rfl, hs_w6⟩
    clear q0 q1 q2 lq T1 HPI
    go_wp2_with (go_at_call 20; refine (numv_any _ _).mono ?_; rintro e w' ⟨rfl, rfl⟩)
    go_ret
    exact ⟨by simp, Step.of⟩
end Go.Proofs.YtcgpfllkbflbhaaDoor
