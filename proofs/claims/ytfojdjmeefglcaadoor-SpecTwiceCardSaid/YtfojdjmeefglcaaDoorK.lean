import Derived.Test.YtfojdjmeefglcaaDoorG
import Derived.Test.YtfojdjmeefglcaaDoorJ
namespace Go.Proofs.YtfojdjmeefglcaaDoor
open Go.RowKit

theorem dropR_may {s : Sch} {nm : ByteArray} (h : mayB s = false) : dropR s nm = (Sch.zero, 1200) := by simp [dropR, h]
theorem dropR_none {s : Sch} {nm : ByteArray} (h : mayB s = true) (h2 : idx (named nm) s.cols < 0) : dropR s nm = (Sch.zero, 1202) := by simp [dropR, h, h2]
theorem dropR_one {s : Sch} {nm : ByteArray} (h : mayB s = true) (h2 : ¬ idx (named nm) s.cols < 0) (h3 : s.cols.length = 1) : dropR s nm = (Sch.zero, 1203) := by simp [dropR, h, h2, h3]
theorem dropR_next {s : Sch} {nm : ByteArray} (h : mayB s = true) (h2 : ¬ idx (named nm) s.cols < 0) (h3 : ¬ s.cols.length = 1) : dropR s nm = nextR ⟨s.id + 1, s.cols.eraseIdx (s.cols.findIdx (named nm)), s.next⟩ := by simp [dropR, h, h2, h3]

set_option maxHeartbeats 4000000 in
theorem drop_any (s : Sch) (A : Option Addr) (cap : Nat) (nm : ByteArray) (w : World) (hs : SchIn w s A cap) :
    Calls Tryd.prog 17 #[s.val A cap, .string nm] w (SchRes w (dropR s nm)) := by
  have HS0 := hide ((hs.al (.cells #[.int .i64 s.id, .slice A s.cols.length cap, .int .i64 s.next] 24)).al (.cells #[.int .i64 0, .slice none 0 0, .int .i64 0] 24))
  have HM := hide (HS0.out.find nm)
  have HF0 := hide (((Blks.nil_ w).push 24 [.int .i64 s.id, .slice A s.cols.length cap, .int .i64 s.next]).push 24 [.int .i64 0, .slice none 0 0, .int .i64 0])
  simp only [hsz] at HF0
  obtain ⟨x1, x2⟩ := idx_bd (named nm) s.cols
  have x3 := hs.len
  unfold Sch.val at HM ⊢
  go_enter Tryd.func17, Tryd.ntmps17
  go_wp2_with fail
  refine HM.out.mono ?_
  rintro e w1 ⟨rfl, hb1⟩
  have z1 := hb1.size
  simp only [hsz] at z1
  have HB1 := hide (below_from1 (below_from1 hb1))
  have HS1 := hide ((HS0.out.below hb1).al (.cells #[.int .i64 (idx (named nm) s.cols)] 3))
  have HF1 := hide ((HF0.out.after hb1).push 3 [.int .i64 (idx (named nm) s.cols)])
  clear hb1 HM HS0 HF0
  obtain ⟨b2, b1, b0, _⟩ := HF1.out
  have p2_0 := At.z1 b2.at0
  obtain ⟨p1_0, p1_1, p1_2⟩ := At.z3 b1.at0
  obtain ⟨p0_0, p0_1, p0_2⟩ := At.z3 b0.at0
  have f1 := b1.free
  have l1 := b1.lt
  have HR1 := hide b1
  clear b0 b1 b2
  simp only [hsz] at l1
  have HM := hide HS1.out.may
  unfold Sch.val at HM
  go_wp2_with fail
  refine HM.out.mono ?_
  rintro e w2 ⟨rfl, hb2⟩
  have z2 := hb2.size
  simp only [hsz] at z2
  have HB2 := hide ((HB1.out.alloc (by omega) (.cells #[.int .i64 (idx (named nm) s.cols)] 3)).trans (hb2.mono (by simp only [hsz]; omega)))
  have HS2 := hide (HS1.out.below hb2)
  have HF2 := hide (HF1.out.after hb2)
  clear p0_0 p0_1 p0_2 p1_0 p1_1 p1_2 p2_0 f1 hb2
  obtain ⟨b2, b1, b0, _⟩ := HF2.out
  have p2_0 := At.z1 b2.at0
  obtain ⟨p1_0, p1_1, p1_2⟩ := At.z3 b1.at0
  obtain ⟨p0_0, p0_1, p0_2⟩ := At.z3 b0.at0
  have f1 := b1.free
  have l1 := b1.lt
  have HR2 := hide b1
  clear b0 b1 b2
  cases hm : mayB s with
  | false =>
    have Hm := hide hm; clear hm
    go_wp2_with fail
    obtain ⟨t0, t1, t2⟩ := At.z3 (store3 HR2.out (.int .i64 0) (.slice none 0 0) (.int .i64 0))
    refine bodyPost_ret (v := .tuple #[.agg #[.int .i64 0, .slice none 0 0, .int .i64 0], .int .i64 1200]) (by simp [results, Tryd.results17, go_sem, t0, t1, t2]) rfl ?_
    rw [dropR_may Hm.out]
    exact SchRes.err (below3 HB2.out (by omega) _ _ _)
  | true =>
    have Hm := hide hm; clear hm
    obtain ⟨i1, i2, i3, i4, i5⟩ := addR_inv Hm.out
    by_cases hi : idx (named nm) s.cols < 0
    · go_wp2_with fail
      obtain ⟨t0, t1, t2⟩ := At.z3 (store3 HR2.out (.int .i64 0) (.slice none 0 0) (.int .i64 0))
      refine bodyPost_ret (v := .tuple #[.agg #[.int .i64 0, .slice none 0 0, .int .i64 0], .int .i64 1202]) (by simp [results, Tryd.results17, go_sem, t0, t1, t2]) rfl ?_
      rw [dropR_none Hm.out hi]
      exact SchRes.err (below3 HB2.out (by omega) _ _ _)
    · by_cases hl : s.cols.length = 1
      · go_wp2_with fail
        obtain ⟨t0, t1, t2⟩ := At.z3 (store3 HR2.out (.int .i64 0) (.slice none 0 0) (.int .i64 0))
        refine bodyPost_ret (v := .tuple #[.agg #[.int .i64 0, .slice none 0 0, .int .i64 0], .int .i64 1203]) (by simp [results, Tryd.results17, go_sem, t0, t1, t2]) rfl ?_
        rw [dropR_one Hm.out (by omega) hl]
        exact SchRes.err (below3 HB2.out (by omega) _ _ _)
      · have Hl := hide hl
        obtain ⟨y1, y2⟩ := idx_yes (p := named nm) (l := s.cols) (by omega)
        have HY := hide y1; clear y1
        have HX : Hid (Calls Tryd.prog 63 #[.agg #[.int .i64 s.id, .slice A s.cols.length cap, .int .i64 s.next], .func (.func 68) #[] #[.pointer (some ⟨w1.heap.size, 0, none⟩)]] w2 (SchRes w2 (nextR ⟨s.id + 1, s.cols.eraseIdx (s.cols.findIdx (named nm)), s.next⟩))) := by
          refine next_any 68 _ s ⟨s.id + 1, s.cols.eraseIdx (s.cols.findIdx (named nm)), s.next⟩ A cap w2 (by omega) (by simp only [List.length_eraseIdx]; split <;> omega) HS2.out.at_ ⟨by omega, by omega⟩ rfl ?_ ?_ ?_
          · exact fun c hc => hs.names c (List.mem_of_mem_eraseIdx hc)
          · intro args w9
            kernel_rfl
          · intro w5 p base cap1 A1 h1 h2 h3 h4 h5 h6
            obtain ⟨b2, b1, b0, _⟩ := HF2.out
            have lb := b2.lt
            have hcell := At.z1 (b2.below h1 (by omega)).at0
            rw [HY.out] at hcell
            refine (drop1_any p w1.heap.size base (s.cols.findIdx (named nm)) s.cols.length cap1 A1 (s.id + 1) s.next s.cols w5 h5 hcell h6 rfl y2).mono ?_
            rintro e w6 ⟨he, g3, g4, g5⟩
            have hl2 : (s.cols.eraseIdx (s.cols.findIdx (named nm))).length = s.cols.length - 1 := by rw [List.length_eraseIdx, if_pos y2]
            obtain ⟨_, _, _, _, _, _, g1, g2, _⟩ := h6.blk (by simp; omega)
            refine ⟨he, A1, cap1, by rw [hl2]; omega, g2, by rw [hl2]; exact g3, by rw [hl2]; exact g4, g5⟩
        go_wp2_with fail
        refine HX.out.mono ?_
        rintro e w4 ⟨A4, cap4, rfl, g1, g2, g3, g4⟩
        have HF4 := hide (HF2.out.after g4)
        clear p0_0 p0_1 p0_2 p1_0 p1_1 p1_2 p2_0 f1
        obtain ⟨b2, b1, b0, _⟩ := HF4.out
        have p2_0 := At.z1 b2.at0
        obtain ⟨p1_0, p1_1, p1_2⟩ := At.z3 b1.at0
        obtain ⟨p0_0, p0_1, p0_2⟩ := At.z3 b0.at0
        have f1 := b1.free
        have l1 := b1.lt
        have HR4 := hide b1
        clear b0 b1 b2
        have Hg := hide g4; clear g4
        unfold Sch.val
        go_wp2_with fail
        obtain ⟨t0, t1, t2⟩ := At.z3 (store3 HR4.out (.int .i64 (nextR ⟨s.id + 1, s.cols.eraseIdx (s.cols.findIdx (named nm)), s.next⟩).1.id) (.slice A4 (nextR ⟨s.id + 1, s.cols.eraseIdx (s.cols.findIdx (named nm)), s.next⟩).1.cols.length cap4) (.int .i64 (nextR ⟨s.id + 1, s.cols.eraseIdx (s.cols.findIdx (named nm)), s.next⟩).1.next))
        refine bodyPost_ret (v := .tuple #[(nextR ⟨s.id + 1, s.cols.eraseIdx (s.cols.findIdx (named nm)), s.next⟩).1.val A4 cap4, .int .i64 (nextR ⟨s.id + 1, s.cols.eraseIdx (s.cols.findIdx (named nm)), s.next⟩).2]) (by simp [results, Tryd.results17, go_sem, t0, t1, t2, Sch.val]) rfl ?_
        rw [dropR_next Hm.out (by omega) Hl.out]
        exact SchRes.store g1 g2 g3 (HB2.out.trans (Hg.out.mono (by omega))) (by omega) HR4.out (by omega)
end Go.Proofs.YtfojdjmeefglcaaDoor
