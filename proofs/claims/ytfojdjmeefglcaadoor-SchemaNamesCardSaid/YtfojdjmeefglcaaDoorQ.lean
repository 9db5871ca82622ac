import Derived.Test.YtfojdjmeefglcaaDoorO
import Derived.Test.YtfojdjmeefglcaaDoorP
import Derived.Deep.OwnRows
import Derived.Deep.Cut
import Derived.Laws.IdiomStrings
namespace Go.Proofs.YtfojdjmeefglcaaDoor
open Go.RowKit

def qs (k m : Nat) : List Value := List.replicate k (.int .u8 113) ++ List.replicate (m - k) (.int .u8 0)
theorem qs_set {k m : Nat} (h : k < m) : (qs k m).set k (.int .u8 113) = qs (k + 1) m := by
  unfold qs
  obtain ⟨d, hd⟩ : ∃ d, m - k = d + 1 := ⟨m - k - 1, by omega⟩
  rw [hd, show m - (k + 1) = d by omega, List.set_append_right _ _ (by simp)]
  rw [List.replicate_succ' (n := k)]
  simp [List.replicate_succ]
theorem qs_get {k m : Nat} (h : k < m) : (qs k m)[k]? = some (.int .u8 0) := by
  unfold qs
  rw [List.getElem?_append_right (by simp), List.length_replicate, Nat.sub_self, List.getElem?_replicate, if_pos (by omega)]
/-- What stands in the block at last. -/
def wcells (x : UInt8) (m : Nat) : List Value := (wordL x m).map fun b => .int .u8 (b.toNat : Int)
theorem qs_zero (x : UInt8) : qs 0 0 = wcells x 0 := rfl
theorem qs_succ (x : UInt8) (m : Nat) : (qs (m + 1) (m + 1)).set 0 (.int .u8 (x.toNat : Int)) = wcells x (m + 1) := by
  simp [qs, wcells, wordL, List.replicate_succ]

theorem ofNat_toNat {x : Nat} (h : x < 256) : (UInt8.ofNat x).toNat = x := by simp; omega
theorem word_le (x : UInt8) {m : Nat} (h : m < 32) : (word x m).size ≤ 9223372036854775807 := by
  show (wordL x m).toArray.size ≤ _
  rw [List.size_toArray, wordL_length]
  omega
/-- The conversion of the bytes to a string. -/
theorem word_conv {W : World} {g m : Nat} {x : UInt8} (h : Blk W g 5 (wcells x m)) : (convert 51 9 (.slice (some ⟨g, 0, none⟩) m m)).run Tryd.prog W = .ok (.string (word x m)) W := by
  have h1 := run_convert_bytes_back (P := Tryd.prog) W 51 9 5 ⟨g, 0, none⟩ m (wordL x m) Tryd.underlying51 Tryd.underlying5 Tryd.underlying9 (fun j hj => by
    have := h.at0 j (.int .u8 ((wordL x m)[j].toNat : Int)) (by simp [wcells, hj])
    cases j with
    | zero => simpa [Addr.add] using this
    | succ j => simpa [Addr.add] using this)
  rw [wordL_length] at h1
  exact h1
theorem qs_made (w : World) (m : Nat) : Blk (w.alloc (.cells (madeCells #[.int .u8 0] m) 5)) w.heap.size 5 (qs 0 m) := by
  have h : madeCells #[.int .u8 0] m = (qs 0 m).toArray := by
    apply Array.toList_inj.1
    rw [toList_madeCells_one]
    simp [qs]
  rw [h]
  exact Blk.new w _ _

set_option maxRecDepth 100000 in
set_option maxHeartbeats 4000000 in
theorem names_any (c many : Int) (w : World) : Calls Tryd.prog 5 #[.int .i64 c, .int .i64 many] w fun e w' => e = .returned (.bool true) ∧ Below w.heap.size w w' := by
  obtain ⟨m, hm, hm1⟩ : ∃ m : Nat, many % 32 = m ∧ m < 32 := ⟨(many % 32).toNat, by omega, by omega⟩
  obtain ⟨x, hx, hx1⟩ : ∃ x : Nat, IntKind.u8.wrap c = x ∧ x < 256 := ⟨(c % 256).toNat, by rw [IntKind.wrap_u8]; omega, by omega⟩
  have hand : bits .and .i64 many 31 = (m : Int) := by rw [and31, hm]
  have hmk := fun W => run_make_row' (P := Tryd.prog) 51 5 (.int .u8 0) 1 Tryd.underlying51 (by kernel_rfl) rfl .i64 .i64 m (by omega) (by omega) W
  clear hm
  go_enter Tryd.func5, Tryd.ntmps5
  go_wp2_with fail
  refine (awake12_any w).mono ?_
  rintro e w1 ⟨rfl, hb1⟩
  have HB1 := hide hb1; clear hb1
  go_wp2_with fail
  have HBL : Hid (Blk (w1.alloc (.cells (madeCells #[.int .u8 0] m) 5)) w1.heap.size 5 (qs 0 m)) := qs_made w1 m
  clear hmk hand
  go_loopw [7] (fun i wr => ∃ k : Nat, k ≤ m ∧ i = .int .i64 k ∧ Blk wr w1.heap.size 5 (qs k m) ∧ Below w.heap.size w wr) (fun i _ => m - (intOf i).toNat)
  case atStart => exact ⟨0, Nat.zero_le _, rfl, HBL.out, HB1.out.alloc HB1.out.size _⟩
  case round =>
    obtain ⟨k, hk1, rfl, hg, hbw⟩ := hrel
    have hw1 := HB1.out.size
    have f1 := hg.free k
    by_cases hlt : k < m
    · have g1 : wr.cell? ⟨w1.heap.size, k, none⟩ = some (.int .u8 0) := by simpa using hg.at0 k _ (qs_get hlt)
      have HG := hide hg; clear hg
      have HBW := hide hbw; clear hbw
      go_wp2
      clear f1 g1
      go_roundw
      case rel => exact ⟨k + 1, by omega, by go_num, by have := HG.out.set_ k (.int .u8 113); rwa [qs_set hlt] at this, HBW.out.setCell (by simpa using hw1) _⟩
      case measure => simp [intOf]; omega
    · obtain rfl : k = m := by omega
      have f0 := hg.free 0
      clear f1
      have HG := hide hg; clear hg
      have HBW := hide hbw; clear hbw
      go_upto_if 36 with fail
      go_cut [] from 35 (fun wx => Blk wx w1.heap.size 5 (wcells (UInt8.ofNat x) k) ∧ Below w.heap.size w wx)
      case first =>
        cases k with
        | zero =>
          go_wp2
          go_meet
          case rel => exact ⟨HG.out, HBW.out⟩
        | succ k =>
          have g1 : wr.cell? ⟨w1.heap.size, 0, none⟩ = some (.int .u8 113) := by simpa using HG.out.at0 0 _ rfl
          go_wp2
          go_meet
          case rel =>
            refine ⟨?_, HBW.out.setCell (by simpa using hw1) _⟩
            have := HG.out.set_ 0 (.int .u8 ((UInt8.ofNat x).toNat : Int))
            rw [qs_succ, ofNat_toNat hx1] at this
            exact this
      case rest =>
        go_upto_region 12 with fail
        have HC := hide hcut; clear hcut
        go_cut [9] from 40 (fun s9 wx => s9 = .bool (fineB x k) ∧ wx = wc)
        case first =>
          go_wp2
          all_goals go_meet
          all_goals refine ⟨?_, rfl⟩
          all_goals exact congrArg Value.bool (by rw [Bool.eq_iff_iff]; simp [fineB, fineX]; try omega)
        case rest =>
          obtain ⟨rfl, hww⟩ := hcut
          subst hww
          obtain ⟨s1, n1, e1, q1, q2, q3, q4⟩ := sn_new (word (UInt8.ofNat x) k)
          obtain ⟨s2, n2, e2, q5, q6, q7⟩ := sn_add (word (UInt8.ofNat x) k)
          obtain ⟨s3, n3, e3, q8, q9, q10⟩ := sn_ren (word (UInt8.ofNat x) k)
          rw [nameB_word _ _ hx1] at q1 q2 q5 q8
          have HW := hide (word_le (UInt8.ofNat x) hm1)
          have HB2 := hide HC.out.2
          have HG2 := hide HC.out.1
          clear HC HG HBW HB1 HBL f0
          have Q1 := hide q1; have Q2 := hide q2; have Q3 := hide q3; have Q4 := hide q4; have Q5 := hide q5; have Q6 := hide q6; have Q7 := hide q7; have Q8 := hide q8; have Q9 := hide q9; have Q10 := hide q10
          clear q1 q2 q3 q4 q5 q6 q7 q8 q9 q10
          have z0 := HG2.out.lt
          have hcv := word_conv HG2.out
          have HN1 := hide (SlAt.new (w := wc) (size := 1) (l := strCells [word (UInt8.ofNat x) k]) (cs := [.string (word (UInt8.ofNat x) k)]) (t := 9) rfl (by intro y hy; simp [strCells] at hy; rw [hy]; rfl))
          have HN2 := hide (SlAt.new (w := wc.alloc (.cells [.string (word (UInt8.ofNat x) k)].toArray 9)) (size := 1) (l := intCells [1]) (cs := [.int .i64 1]) (t := 3) rfl (by intro y hy; simp [intCells] at hy; rw [hy]; rfl))
          simp only [hsz] at HN1 HN2
          have hc := new_any [word (UInt8.ofNat x) k] [1] (some ⟨wc.heap.size, 0, none⟩) (some ⟨wc.heap.size + 1, 0, none⟩) 1 1 ((wc.alloc (.cells #[.string (word (UInt8.ofNat x) k)] 9)).alloc (.cells #[.int .i64 1] 3)) (by simp only [hsz]; exact (HN1.out.keep (below_a1 _ _ |>.mono (by simp only [hsz]; omega))).more (by omega)) (by simp only [hsz]; exact HN2.out) (by simp)
            (by intro n hn; simp at hn; rw [hn]; exact HW.out)
          rw [e1] at hc
          have HC := hide hc; clear hc
          go_wp2_with fail
          refine HC.out.mono ?_
          intro e w2 h
          obtain ⟨A1, c1, rfl, hin1, _, hb1⟩ := h.got (by have := Q3.out; omega) (fun c hc => by rw [Q4.out c hc]; exact HW.out)
          have HB3 := hide ((HB2.out.trans (below_from1 (below_from1 hb1) |>.mono HB2.out.size)).alloc (Nat.le_trans HB2.out.size (below_from1 (below_from1 hb1)).size) (.cells #[.int .i64 s1.id, .slice A1 s1.cols.length c1, .int .i64 s1.next] 24))
          have HG3 := hide (((HG2.out.below (below_from1 (below_from1 hb1)) HG2.out.lt)).alloc (.cells #[.int .i64 s1.id, .slice A1 s1.cols.length c1, .int .i64 s1.next] 24))
          have V1 := hide hin1.var
          clear hb1 hin1 h HC HN1 HN2 hcv HG2 HB2
          unfold Sch.val
          have hcv := word_conv HG3.out
          have HN1 := hide (SlAt.new (w := w2.alloc (.cells #[.int .i64 s1.id, .slice A1 s1.cols.length c1, .int .i64 s1.next] 24)) (size := 1) (l := strCells [str [97]]) (cs := [.string (str [97])]) (t := 9) rfl (by intro y hy; simp [strCells] at hy; rw [hy]; rfl))
          have HN2 := hide (SlAt.new (w := (w2.alloc (.cells #[.int .i64 s1.id, .slice A1 s1.cols.length c1, .int .i64 s1.next] 24)).alloc (.cells [.string (str [97])].toArray 9)) (size := 1) (l := intCells [1]) (cs := [.int .i64 1]) (t := 3) rfl (by intro y hy; simp [intCells] at hy; rw [hy]; rfl))
          simp only [hsz] at HN1 HN2
          have hc := new_any [str [97]] [1] (some ⟨w2.heap.size + 1, 0, none⟩) (some ⟨w2.heap.size + 1 + 1, 0, none⟩) 1 1 (((w2.alloc (.cells #[.int .i64 s1.id, .slice A1 s1.cols.length c1, .int .i64 s1.next] 24)).alloc (.cells #[.string (str [97])] 9)).alloc (.cells #[.int .i64 1] 3)) (by simp only [hsz]; exact (HN1.out.keep (below_a1 _ _ |>.mono (by simp only [hsz]; omega))).more (by omega)) (by simp only [hsz]; exact HN2.out) (by simp)
            (by intro n hn; simp at hn; rw [hn]; decide)
          rw [sn_a] at hc
          have HC := hide hc; clear hc
          go_wp2_with fail
          refine HC.out.mono ?_
          intro e w4 h
          obtain ⟨A2, c2, rfl, hin2, _, hb2⟩ := h.got (by decide) (aw_small _ (by decide))
          have hb2' := below_from1 (below_from1 hb2)
          have HB4 := hide ((HB3.out.trans (hb2'.mono HB3.out.size)).alloc (Nat.le_trans HB3.out.size hb2'.size) (.cells #[.int .i64 sn0.id, .slice A2 sn0.cols.length c2, .int .i64 sn0.next] 24))
          have HG4 := hide ((HG3.out.below hb2' HG3.out.lt).alloc (.cells #[.int .i64 sn0.id, .slice A2 sn0.cols.length c2, .int .i64 sn0.next] 24))
          have V1' := hide ((V1.out.after hb2').al (.cells #[.int .i64 sn0.id, .slice A2 sn0.cols.length c2, .int .i64 sn0.next] 24)); clear V1; have V1 := V1'; clear V1'
          have V2 := hide hin2.var
          clear hb2 hb2' hin2 h HC HN1 HN2 hcv HG3 HB3
          unfold Sch.val
          obtain ⟨v2_0, v2_1, v2_2⟩ := At.z3 V2.out.blk.at0
          have hcv := word_conv HG4.out
          have hc := add_any sn0 A2 c2 (word (UInt8.ofNat x) k) 3 _ V2.out.sin HW.out
          rw [e2] at hc
          unfold Sch.val at hc
          have HC := hide hc; clear hc
          go_wp2_with fail
          refine HC.out.mono ?_
          intro e w5 h
          obtain ⟨A3, c3, rfl, hin3, _, hb3⟩ := h.got (by have := Q6.out; omega) (fun c hc => by rcases Q7.out c hc with h | h <;> rw [h]; exact HW.out; decide)
          have HB5 := hide ((HB4.out.trans (hb3.mono HB4.out.size)).alloc (Nat.le_trans HB4.out.size hb3.size) (.cells #[.int .i64 s2.id, .slice A3 s2.cols.length c3, .int .i64 s2.next] 24))
          have HG5 := hide ((HG4.out.below hb3 HG4.out.lt).alloc (.cells #[.int .i64 s2.id, .slice A3 s2.cols.length c3, .int .i64 s2.next] 24))
          have V1' := hide ((V1.out.after hb3).al (.cells #[.int .i64 s2.id, .slice A3 s2.cols.length c3, .int .i64 s2.next] 24)); clear V1; have V1 := V1'; clear V1'
          have V2' := hide ((V2.out.after hb3).al (.cells #[.int .i64 s2.id, .slice A3 s2.cols.length c3, .int .i64 s2.next] 24)); clear V2; have V2 := V2'; clear V2'
          clear hb3 hin3 h HC hcv HG4 HB4 v2_0 v2_1 v2_2
          unfold Sch.val
          obtain ⟨v2_0, v2_1, v2_2⟩ := At.z3 V2.out.blk.at0
          have hcv := word_conv HG5.out
          have hc := rename_any sn0 A2 c2 (str [97]) (word (UInt8.ofNat x) k) _ V2.out.sin HW.out
          rw [e3] at hc
          unfold Sch.val at hc
          have HC := hide hc; clear hc
          go_wp2_with fail
          refine HC.out.mono ?_
          intro e w6 h
          obtain ⟨A4, c4, rfl, hin4, _, hb4⟩ := h.got (by have := Q9.out; omega) (fun c hc => by rw [Q10.out c hc]; exact HW.out)
          have HB6 := hide ((HB5.out.trans (hb4.mono HB5.out.size)).alloc (Nat.le_trans HB5.out.size hb4.size) (.cells #[.int .i64 s3.id, .slice A4 s3.cols.length c4, .int .i64 s3.next] 24))
          have HG6 := hide ((HG5.out.below hb4 HG5.out.lt).alloc (.cells #[.int .i64 s3.id, .slice A4 s3.cols.length c4, .int .i64 s3.next] 24))
          have V1' := hide ((V1.out.after hb4).al (.cells #[.int .i64 s3.id, .slice A4 s3.cols.length c4, .int .i64 s3.next] 24)); clear V1; have V1 := V1'; clear V1'
          clear hb4 hin4 h HC hcv HG5 HB5 v2_0 v2_1 v2_2 V2
          unfold Sch.val
          have hcv := word_conv HG6.out
          go_upto_region 18 with fail
          clear hcv HG6
          obtain ⟨v1_0, v1_1, v1_2⟩ := At.z3 V1.out.blk.at0
          have hc := V1.out.sin.may
          unfold Sch.val at hc
          rw [Q2.out] at hc
          have HC := hide hc; clear hc
          have p1 := Q1.out; have p5 := Q5.out; have p8 := Q8.out
          clear hx
          cases hF : fineB x k <;> cases hA : ((word (UInt8.ofNat x) k).toList == [97])
          all_goals
            rw [hF] at p1 p5 p8 HC
            simp only [hA, Bool.true_and, Bool.false_and, Bool.not_true, Bool.not_false] at p5
            go_wp2_with (go_at_call 22; refine (num_any _ _).mono ?_; rintro e w9 ⟨rfl, rfl⟩)
            refine HC.out.mono ?_
            rintro e w7 ⟨rfl, hb7⟩
            have HB7 := hide (HB6.out.trans (hb7.mono HB6.out.size))
            clear hb7 HC v1_0 v1_1 v1_2
            go_wp2_with (go_at_call 22; refine (num_any _ _).mono ?_; rintro e w9 ⟨rfl, rfl⟩)
            go_ret
            exact ⟨rfl, HB7.out⟩
end Go.Proofs.YtfojdjmeefglcaaDoor
