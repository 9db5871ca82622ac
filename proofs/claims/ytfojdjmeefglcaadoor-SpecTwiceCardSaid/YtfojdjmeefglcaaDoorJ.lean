import Derived.Test.YtfojdjmeefglcaaDoorF
import Derived.Test.YtfojdjmeefglcaaDoorI
namespace Go.Proofs.YtfojdjmeefglcaaDoor
open Go.RowKit

theorem addR_may {s : Sch} {nm : ByteArray} {k : Int} (h : mayB s = false) : addR s nm k = (Sch.zero, 1200) := by simp [addR, h]
theorem addR_name {s : Sch} {nm : ByteArray} {k : Int} (h : mayB s = true) (h1 : nameB nm = false) : addR s nm k = (Sch.zero, 1201) := by simp [addR, h, h1]
theorem addR_there {s : Sch} {nm : ByteArray} {k : Int} (h : mayB s = true) (h1 : nameB nm = true) (h2 : 0 ≤ idx (named nm) s.cols) : addR s nm k = (Sch.zero, 1201) := by simp [addR, h, h1, h2]
theorem addR_kind {s : Sch} {nm : ByteArray} {k : Int} (h : mayB s = true) (h1 : nameB nm = true) (h2 : ¬ 0 ≤ idx (named nm) s.cols) (h3 : kindB k = false) : addR s nm k = (Sch.zero, 1200) := by simp [addR, h, h1, h2, h3]
theorem addR_full {s : Sch} {nm : ByteArray} {k : Int} (h : mayB s = true) (h1 : nameB nm = true) (h2 : ¬ 0 ≤ idx (named nm) s.cols) (h3 : kindB k = true) (h4 : 12 ≤ s.cols.length) : addR s nm k = (Sch.zero, 1203) := by simp [addR, h, h1, h2, h3, h4]
theorem addR_next {s : Sch} {nm : ByteArray} {k : Int} (h : mayB s = true) (h1 : nameB nm = true) (h2 : ¬ 0 ≤ idx (named nm) s.cols) (h3 : kindB k = true) (h4 : ¬ 12 ≤ s.cols.length) :
    addR s nm k = nextR ⟨s.id + 1, s.cols ++ [⟨s.next, nm, k⟩], s.next + 1⟩ := by simp [addR, h, h1, h2, h3, h4]

theorem addR_inv {s : Sch} (h : mayB s = true) : s.id + 1 ≤ 2147483648 ∧ 0 ≤ s.id ∧ s.next + 1 ≤ 2147483648 ∧ 1 ≤ s.next ∧ s.cols.length ≤ 12 := by
  obtain ⟨h1, h2, h3, h4, h5, h6⟩ := mayB_head h
  exact ⟨by omega, h1, by omega, h5, h4⟩

set_option maxHeartbeats 4000000 in
theorem add_any (s : Sch) (A : Option Addr) (cap : Nat) (nm : ByteArray) (k : Int) (w : World) (hs : SchIn w s A cap) (hn : nm.size ≤ 9223372036854775807) :
    Calls Tryd.prog 15 #[s.val A cap, .string nm, .int .i64 k] w (SchRes w (addR s nm k)) := by
  have HS0 := hide ((((hs.al (.cells #[.int .i64 s.id, .slice A s.cols.length cap, .int .i64 s.next] 24)).al (.cells #[.string nm] 9)).al (.cells #[.int .i64 k] 3)).al (.cells #[.int .i64 0, .slice none 0 0, .int .i64 0] 24))
  have HM := hide HS0.out.may
  have HF0 := hide (((((Blks.nil_ w).push 24 [.int .i64 s.id, .slice A s.cols.length cap, .int .i64 s.next]).push 9 [.string nm]).push 3 [.int .i64 k]).push 24 [.int .i64 0, .slice none 0 0, .int .i64 0])
  simp only [hsz] at HF0
  unfold Sch.val at HM ⊢
  go_enter Tryd.func15, Tryd.ntmps15
  go_wp2_with fail
  refine HM.out.mono ?_
  rintro e w1 ⟨rfl, hb1⟩
  have z1 := hb1.size
  simp only [hsz] at z1
  have HB1 := hide (below_from1 (below_from1 (below_from1 (below_from1 hb1))))
  have HS1 := hide (HS0.out.below hb1)
  have HF1 := hide (HF0.out.after hb1)
  clear hb1 HM HS0 HF0
  obtain ⟨b3, b2, b1, b0, _⟩ := HF1.out
  obtain ⟨p3_0, p3_1, p3_2⟩ := At.z3 b3.at0
  have p2_0 := At.z1 b2.at0
  have p1_0 := At.z1 b1.at0
  obtain ⟨p0_0, p0_1, p0_2⟩ := At.z3 b0.at0
  have f3 := b3.free
  have l3 := b3.lt
  have HR1 := hide b3
  clear b0 b1 b2 b3
  cases hm : mayB s with
  | false =>
    have Hm := hide hm; clear hm
    go_wp2_with fail
    obtain ⟨t0, t1, t2⟩ := At.z3 (store3 HR1.out (.int .i64 0) (.slice none 0 0) (.int .i64 0))
    refine bodyPost_ret (v := .tuple #[.agg #[.int .i64 0, .slice none 0 0, .int .i64 0], .int .i64 1200]) (by simp [results, Tryd.results15, go_sem, t0, t1, t2]) rfl ?_
    rw [addR_may Hm.out]
    exact SchRes.err (below3 HB1.out (by omega) _ _ _)
  | true =>
    have Hm := hide hm; clear hm
    obtain ⟨i1, i2, i3, i4, i5⟩ := addR_inv Hm.out
    go_wp2_with fail
    refine (name_any nm w1 hn).mono ?_
    rintro e w2 ⟨rfl, hb2⟩
    have z2 := hb2.size
    have HB2 := hide (HB1.out.trans (hb2.mono (by omega)))
    have HS2 := hide (HS1.out.below hb2)
    have HF2 := hide (HF1.out.after hb2)
    clear p0_0 p0_1 p0_2 p1_0 p2_0 p3_0 p3_1 p3_2 f3 hb2
    obtain ⟨b3, b2, b1, b0, _⟩ := HF2.out
    obtain ⟨p3_0, p3_1, p3_2⟩ := At.z3 b3.at0
    have p2_0 := At.z1 b2.at0
    have p1_0 := At.z1 b1.at0
    obtain ⟨p0_0, p0_1, p0_2⟩ := At.z3 b0.at0
    have f3 := b3.free
    have l3 := b3.lt
    have HR2 := hide b3
    clear b0 b1 b2 b3
    cases hnm : nameB nm with
    | false =>
      have Hn := hide hnm; clear hnm
      go_wp2_with fail
      obtain ⟨t0, t1, t2⟩ := At.z3 (store3 HR2.out (.int .i64 0) (.slice none 0 0) (.int .i64 0))
      refine bodyPost_ret (v := .tuple #[.agg #[.int .i64 0, .slice none 0 0, .int .i64 0], .int .i64 1201]) (by simp [results, Tryd.results15, go_sem, t0, t1, t2]) rfl ?_
      rw [addR_name Hm.out Hn.out]
      exact SchRes.err (below3 HB2.out (by omega) _ _ _)
    | true =>
      have Hn := hide hnm; clear hnm
      have HFi := hide (HS2.out.find nm)
      unfold Sch.val at HFi
      go_wp2_with fail
      refine HFi.out.mono ?_
      rintro e w3 ⟨rfl, hb3⟩
      have z3 := hb3.size
      have HB3 := hide (HB2.out.trans (hb3.mono (by omega)))
      have HS3 := hide (HS2.out.below hb3)
      have HF3 := hide (HF2.out.after hb3)
      clear p0_0 p0_1 p0_2 p1_0 p2_0 p3_0 p3_1 p3_2 f3 hb3
      obtain ⟨b3, b2, b1, b0, _⟩ := HF3.out
      obtain ⟨p3_0, p3_1, p3_2⟩ := At.z3 b3.at0
      have p2_0 := At.z1 b2.at0
      have p1_0 := At.z1 b1.at0
      obtain ⟨p0_0, p0_1, p0_2⟩ := At.z3 b0.at0
      have f3 := b3.free
      have l3 := b3.lt
      have HR3 := hide b3
      clear b0 b1 b2 b3
      by_cases hi : 0 ≤ idx (named nm) s.cols
      · go_wp2_with fail
        obtain ⟨t0, t1, t2⟩ := At.z3 (store3 HR3.out (.int .i64 0) (.slice none 0 0) (.int .i64 0))
        refine bodyPost_ret (v := .tuple #[.agg #[.int .i64 0, .slice none 0 0, .int .i64 0], .int .i64 1201]) (by simp [results, Tryd.results15, go_sem, t0, t1, t2]) rfl ?_
        rw [addR_there Hm.out Hn.out hi]
        exact SchRes.err (below3 HB3.out (by omega) _ _ _)
      · go_wp2_with fail
        refine (vecKind_any k w3).mono ?_
        rintro e w4 ⟨rfl, rfl⟩
        cases hk : kindB k with
        | false =>
          have Hk := hide hk; clear hk
          go_wp2_with fail
          obtain ⟨t0, t1, t2⟩ := At.z3 (store3 HR3.out (.int .i64 0) (.slice none 0 0) (.int .i64 0))
          refine bodyPost_ret (v := .tuple #[.agg #[.int .i64 0, .slice none 0 0, .int .i64 0], .int .i64 1200]) (by simp [results, Tryd.results15, go_sem, t0, t1, t2]) rfl ?_
          rw [addR_kind Hm.out Hn.out (by omega) Hk.out]
          exact SchRes.err (below3 HB3.out (by omega) _ _ _)
        | true =>
          have Hk := hide hk; clear hk
          by_cases hl : 12 ≤ s.cols.length
          · go_wp2_with fail
            obtain ⟨t0, t1, t2⟩ := At.z3 (store3 HR3.out (.int .i64 0) (.slice none 0 0) (.int .i64 0))
            refine bodyPost_ret (v := .tuple #[.agg #[.int .i64 0, .slice none 0 0, .int .i64 0], .int .i64 1203]) (by simp [results, Tryd.results15, go_sem, t0, t1, t2]) rfl ?_
            rw [addR_full Hm.out Hn.out (by omega) Hk.out hl]
            exact SchRes.err (below3 HB3.out (by omega) _ _ _)
          · have HX : Hid (Calls Tryd.prog 63 #[.agg #[.int .i64 s.id, .slice A s.cols.length cap, .int .i64 s.next], .func (.func 64) #[] #[.pointer (some ⟨w.heap.size + 1, 0, none⟩), .pointer (some ⟨w.heap.size + 1 + 1, 0, none⟩)]] w3 (SchRes w3 (nextR ⟨s.id + 1, s.cols ++ [⟨s.next, nm, k⟩], s.next + 1⟩))) := by
              refine next_any 64 _ s ⟨s.id + 1, s.cols ++ [⟨s.next, nm, k⟩], s.next + 1⟩ A cap w3 (by omega) (by simp; omega) HS3.out.at_ ⟨by omega, by omega⟩ rfl ?_ ?_ ?_
              · intro c hc
                rcases List.mem_append.1 hc with h | h
                · exact hs.names c h
                · obtain rfl : c = ⟨s.next, nm, k⟩ := by simpa using h
                  exact hn
              · intro args w9
                kernel_rfl
              · intro w5 p base cap1 A1 h1 h2 h3 h4 h5 h6
                obtain ⟨b3, b2, b1, b0, _⟩ := HF3.out
                have lb := b2.lt
                refine (add1_any p (w.heap.size + 1) (w.heap.size + 1 + 1) base (s.id + 1) s.next k nm (.slice A1 s.cols.length cap1) s.cols w5 h5 (At.z1 (b1.below h1 (by omega)).at0) (At.z1 (b2.below h1 (by omega)).at0) h6 (by omega) h4 h3 (by omega) (by omega)).mono ?_
                rintro e w6 ⟨he, A2, cap2, g1, g2, g3, g4, g5⟩
                rw [show wrap64 (s.next + 1) = s.next + 1 from IntWalk.wrap64_in _ ⟨by omega, by omega⟩] at g3
                exact ⟨he, A2, cap2, by simpa using g1, g2, by simpa using g3, by simpa using g4, g5⟩
            go_wp2_with fail
            refine HX.out.mono ?_
            rintro e w4 ⟨A4, cap4, rfl, g1, g2, g3, g4⟩
            have HF4 := hide (HF3.out.after g4)
            clear p0_0 p0_1 p0_2 p1_0 p2_0 p3_0 p3_1 p3_2 f3
            obtain ⟨b3, b2, b1, b0, _⟩ := HF4.out
            obtain ⟨p3_0, p3_1, p3_2⟩ := At.z3 b3.at0
            have p2_0 := At.z1 b2.at0
            have p1_0 := At.z1 b1.at0
            obtain ⟨p0_0, p0_1, p0_2⟩ := At.z3 b0.at0
            have f3 := b3.free
            have l3 := b3.lt
            have HR4 := hide b3
            clear b0 b1 b2 b3
            have Hg := hide g4; clear g4
            unfold Sch.val
            go_wp2_with fail
            obtain ⟨t0, t1, t2⟩ := At.z3 (store3 HR4.out (.int .i64 (nextR ⟨s.id + 1, s.cols ++ [⟨s.next, nm, k⟩], s.next + 1⟩).1.id) (.slice A4 (nextR ⟨s.id + 1, s.cols ++ [⟨s.next, nm, k⟩], s.next + 1⟩).1.cols.length cap4) (.int .i64 (nextR ⟨s.id + 1, s.cols ++ [⟨s.next, nm, k⟩], s.next + 1⟩).1.next))
            refine bodyPost_ret (v := .tuple #[(nextR ⟨s.id + 1, s.cols ++ [⟨s.next, nm, k⟩], s.next + 1⟩).1.val A4 cap4, .int .i64 (nextR ⟨s.id + 1, s.cols ++ [⟨s.next, nm, k⟩], s.next + 1⟩).2]) (by simp [results, Tryd.results15, go_sem, t0, t1, t2, Sch.val]) rfl ?_
            rw [addR_next Hm.out Hn.out (by omega) Hk.out hl]
            exact SchRes.store g1 g2 g3 (HB3.out.trans (Hg.out.mono (by omega))) (by omega) HR4.out (by omega)
end Go.Proofs.YtfojdjmeefglcaaDoor
