import Derived.Test.YtfojdjmeefglcaaDoorH
import Derived.Test.YtfojdjmeefglcaaDoorJ
import Derived.Deep.RegionHeld3
import Derived.Deep.DeepCutAuto
namespace Go.Proofs.YtfojdjmeefglcaaDoor
open Go.RowKit

theorem renameR_may {s : Sch} {nm nw : ByteArray} (h : mayB s = false) : renameR s nm nw = (Sch.zero, 1200) := by simp [renameR, h]
theorem renameR_none {s : Sch} {nm nw : ByteArray} (h : mayB s = true) (h2 : idx (named nm) s.cols < 0) : renameR s nm nw = (Sch.zero, 1202) := by simp [renameR, h, h2]
theorem renameR_name {s : Sch} {nm nw : ByteArray} (h : mayB s = true) (h2 : ¬ idx (named nm) s.cols < 0) (h3 : nameB nw = false) : renameR s nm nw = (Sch.zero, 1201) := by simp [renameR, h, h2, h3]
theorem renameR_there {s : Sch} {nm nw : ByteArray} (h : mayB s = true) (h2 : ¬ idx (named nm) s.cols < 0) (h3 : nameB nw = true) (h4 : 0 ≤ idx (named nw) s.cols) (h5 : idx (named nw) s.cols ≠ idx (named nm) s.cols) : renameR s nm nw = (Sch.zero, 1201) := by simp [renameR, h, h2, h3, h4, h5]
theorem renameR_next {s : Sch} {nm nw : ByteArray} (h : mayB s = true) (h2 : ¬ idx (named nm) s.cols < 0) (h3 : nameB nw = true) (h4 : ¬ (0 ≤ idx (named nw) s.cols ∧ idx (named nw) s.cols ≠ idx (named nm) s.cols)) :
    renameR s nm nw = nextR ⟨s.id + 1, setName s.cols (s.cols.findIdx (named nm)) nw, s.next⟩ := by simp only [renameR, h, h3, if_neg h2, if_neg h4]; rfl

set_option maxHeartbeats 4000000 in
theorem rename_any (s : Sch) (A : Option Addr) (cap : Nat) (nm nw : ByteArray) (w : World) (hs : SchIn w s A cap) (hn : nw.size ≤ 9223372036854775807) :
    Calls Tryd.prog 19 #[s.val A cap, .string nm, .string nw] w (SchRes w (renameR s nm nw)) := by
  have HS0 := hide (((hs.al (.cells #[.int .i64 s.id, .slice A s.cols.length cap, .int .i64 s.next] 24)).al (.cells #[.string nw] 9)).al (.cells #[.int .i64 0, .slice none 0 0, .int .i64 0] 24))
  have HF0 := hide ((((Blks.nil_ w).push 24 [.int .i64 s.id, .slice A s.cols.length cap, .int .i64 s.next]).push 9 [.string nw]).push 24 [.int .i64 0, .slice none 0 0, .int .i64 0])
  simp only [hsz] at HF0
  obtain ⟨x1, x2⟩ := idx_bd (named nm) s.cols
  obtain ⟨x4, x5⟩ := idx_bd (named nw) s.cols
  have x3 := hs.len
  have HB0 : Hid (Below w.heap.size w (((w.alloc (.cells #[.int .i64 s.id, .slice A s.cols.length cap, .int .i64 s.next] 24)).alloc (.cells #[.string nw] 9)).alloc (.cells #[.int .i64 0, .slice none 0 0, .int .i64 0] 24))) := (((below_a1 w _).alloc (by simp) _).alloc (by simp; omega) _)
  unfold Sch.val
  obtain ⟨W, hW⟩ : ∃ W, W = (((w.alloc (.cells #[.int .i64 s.id, .slice A s.cols.length cap, .int .i64 s.next] 24)).alloc (.cells #[.string nw] 9)).alloc (.cells #[.int .i64 0, .slice none 0 0, .int .i64 0] 24)) := ⟨_, rfl⟩
  have hWs : w.heap.size + 1 + 1 < W.heap.size := by rw [hW]; simp
  have HW := hide hW; clear hW
  go_enter Tryd.func19, Tryd.ntmps19
  go_upto_region 1 with fail
  rw [← HW.out] at HS0 HF0 HB0 ⊢
  go_cut [8, 9] (fun s8 s9 wx => ∃ g : Nat, s8 = .pointer (some ⟨g, 0, none⟩) ∧ s9 = .int .i64 (idx (named nw) s.cols) ∧ Below W.heap.size W wx ∧ W.heap.size ≤ g ∧ g < wx.heap.size ∧ wx.cell? ⟨g, 0, none⟩ = some (.int .i64 (idx (named nm) s.cols)))
  case first =>
    have KS : Hid (∀ w', Below W.heap.size W w' → w'.cell? ⟨w.heap.size, 0, none⟩ = some (.int .i64 s.id) ∧ w'.cell? ⟨w.heap.size, 1, none⟩ = some (.slice A s.cols.length cap) ∧ w'.cell? ⟨w.heap.size, 2, none⟩ = some (.int .i64 s.next) ∧
        w'.cell? ⟨w.heap.size + 1, 0, none⟩ = some (.string nw) ∧ Below W.heap.size W w') := fun w' hb => by
      obtain ⟨_, b1, b0, _⟩ := HF0.out.after hb
      obtain ⟨q0, q1, q2⟩ := At.z3 b0.at0
      exact ⟨q0, q1, q2, At.z1 b1.at0, hb⟩
    have K0 := hide (KS.out W.drew (Below.refl _ _).drew)
    obtain ⟨k0, k1, k2, k3, _⟩ := K0.out
    go_region_held3 (fun w' => w'.cell? ⟨w.heap.size, 0, none⟩ = some (.int .i64 s.id) ∧ w'.cell? ⟨w.heap.size, 1, none⟩ = some (.slice A s.cols.length cap) ∧ w'.cell? ⟨w.heap.size, 2, none⟩ = some (.int .i64 s.next) ∧
        w'.cell? ⟨w.heap.size + 1, 0, none⟩ = some (.string nw) ∧ Below W.heap.size W w')
      (first | exact K0.out | exact KS.out _ (by assumption) | exact KS.out _ ((Below.refl _ _).drew.alloc (Nat.le_refl _) _) | exact KS.out _ (Below.alloc (by assumption) (by first | omega | (simp; omega)) _) | exact KS.out _ (Below.setCell (by assumption) (by first | exact Nat.le_refl _ | (show W.heap.size ≤ World.heap _ |>.size; omega) | (simp; omega) | simp) _))
      (first | (go_at_call 29; have kS := ‹_ ∧ _ ∧ _ ∧ _ ∧ Below W.heap.size W _›; obtain ⟨_, _, _, _, kB⟩ := kS; have hx := (HS0.out.below kB).find; unfold Sch.val at hx; refine (hx _).mono ?_; rintro e w' ⟨rfl, hb⟩; obtain ⟨c1, f1⟩ := bcell hb; have kB' := kB.trans (hb.mono kB.size); have k9 := kB'.size; have k8 := hb.size; (try have k7 : W.heap.size < w'.heap.size := (by simp at k8; omega)); clear hx hb kB))
    all_goals
      go_wp2_with fail
      go_meet
      refine ⟨_, rfl, rfl, ?_, ?_, ?_, ?_⟩
      · first | exact Below.setCell (by assumption) (by first | exact Nat.le_refl _ | (simp; omega) | simp) _ | exact Below.alloc (by assumption) (by first | omega | (simp; omega)) _
      · first | exact Nat.le_refl _ | omega
      · first | (simp; done) | (simp; omega) | (simp [World.setCell]; omega) | (simp [World.setCell]; simp at k8; omega)
      · first | (simp [go_sem, *]; done)
  case rest =>
    obtain ⟨g, rfl, rfl, hbx, hg1, hg2, hgc⟩ := hcut
    have HSx := hide (HS0.out.below hbx)
    have HFx := hide (HF0.out.after hbx)
    have HBx := hide (HB0.out.trans (hbx.mono (by omega)))
    have zx := hbx.size
    clear hbx HS0 HF0 HB0 HW
    obtain ⟨b2, b1, b0, _⟩ := HFx.out
    obtain ⟨p0_0, p0_1, p0_2⟩ := At.z3 b0.at0
    have p1_0 := At.z1 b1.at0
    obtain ⟨p2_0, p2_1, p2_2⟩ := At.z3 b2.at0
    have f2 := b2.free
    clear b2 b1 b0
    have HM := hide HSx.out.may
    unfold Sch.val at HM
    go_wp2_with fail
    refine HM.out.mono ?_
    rintro e w2 ⟨rfl, hb2⟩
    have z2 := hb2.size
    have HB2 := hide (HBx.out.trans (hb2.mono (by omega)))
    have HS2 := hide (HSx.out.below hb2)
    have HF2 := hide (HFx.out.after hb2)
    have hgc2 := (hb2.cell (p := ⟨g, 0, none⟩) (by simp only; omega)).trans hgc
    clear p0_0 p0_1 p0_2 p1_0 p2_0 p2_1 p2_2 f2 hb2 hgc
    obtain ⟨b2, b1, b0, _⟩ := HF2.out
    obtain ⟨p2_0, p2_1, p2_2⟩ := At.z3 b2.at0
    have p1_0 := At.z1 b1.at0
    obtain ⟨p0_0, p0_1, p0_2⟩ := At.z3 b0.at0
    have f2 := b2.free
    have l2 := b2.lt
    have HR2 := hide b2
    clear b0 b1 b2
    cases hm : mayB s with
    | false =>
      have Hm := hide hm; clear hm
      go_wp2_with fail
      obtain ⟨t0, t1, t2⟩ := At.z3 (store3 HR2.out (.int .i64 0) (.slice none 0 0) (.int .i64 0))
      refine bodyPost_ret (v := .tuple #[.agg #[.int .i64 0, .slice none 0 0, .int .i64 0], .int .i64 1200]) (by simp [results, Tryd.results19, go_sem, t0, t1, t2]) rfl ?_
      rw [renameR_may Hm.out]
      exact SchRes.err (below3 HB2.out (by omega) _ _ _)
    | true =>
      have Hm := hide hm; clear hm
      obtain ⟨i1, i2, i3, i4, i5⟩ := addR_inv Hm.out
      by_cases hi : idx (named nm) s.cols < 0
      · go_wp2_with fail
        obtain ⟨t0, t1, t2⟩ := At.z3 (store3 HR2.out (.int .i64 0) (.slice none 0 0) (.int .i64 0))
        refine bodyPost_ret (v := .tuple #[.agg #[.int .i64 0, .slice none 0 0, .int .i64 0], .int .i64 1202]) (by simp [results, Tryd.results19, go_sem, t0, t1, t2]) rfl ?_
        rw [renameR_none Hm.out hi]
        exact SchRes.err (below3 HB2.out (by omega) _ _ _)
      · go_wp2_with fail
        refine (name_any nw w2 hn).mono ?_
        rintro e w3 ⟨rfl, hb3⟩
        have z3 := hb3.size
        have HB3 := hide (HB2.out.trans (hb3.mono (by omega)))
        have HS3 := hide (HS2.out.below hb3)
        have HF3 := hide (HF2.out.after hb3)
        have hgc3 := (hb3.cell (p := ⟨g, 0, none⟩) (by simp only; omega)).trans hgc2
        clear p0_0 p0_1 p0_2 p1_0 p2_0 p2_1 p2_2 f2 hb3 hgc2
        obtain ⟨b2, b1, b0, _⟩ := HF3.out
        obtain ⟨p2_0, p2_1, p2_2⟩ := At.z3 b2.at0
        have p1_0 := At.z1 b1.at0
        obtain ⟨p0_0, p0_1, p0_2⟩ := At.z3 b0.at0
        have f2 := b2.free
        have l2 := b2.lt
        have HR3 := hide b2
        clear b0 b1 b2
        cases hnm : nameB nw with
        | false =>
          have Hn := hide hnm; clear hnm
          go_wp2_with fail
          obtain ⟨t0, t1, t2⟩ := At.z3 (store3 HR3.out (.int .i64 0) (.slice none 0 0) (.int .i64 0))
          refine bodyPost_ret (v := .tuple #[.agg #[.int .i64 0, .slice none 0 0, .int .i64 0], .int .i64 1201]) (by simp [results, Tryd.results19, go_sem, t0, t1, t2]) rfl ?_
          rw [renameR_name Hm.out (by omega) Hn.out]
          exact SchRes.err (below3 HB3.out (by omega) _ _ _)
        | true =>
          have Hn := hide hnm; clear hnm
          by_cases hj : 0 ≤ idx (named nw) s.cols
          · by_cases hk : idx (named nw) s.cols = idx (named nm) s.cols
            · have HKK := hide hk
              have hkk : (idx (named nw) s.cols != idx (named nm) s.cols) = false := by simp [hk]
              clear hk
              obtain ⟨y1, y2⟩ := idx_yes (p := named nm) (l := s.cols) (by omega)
              have HY := hide y1; clear y1
              have HC : Hid (¬ (0 ≤ idx (named nw) s.cols ∧ idx (named nw) s.cols ≠ idx (named nm) s.cols)) := fun hh => hh.2 HKK.out
              have HX : Hid (Calls Tryd.prog 63 #[.agg #[.int .i64 s.id, .slice A s.cols.length cap, .int .i64 s.next], .func (.func 70) #[] #[.pointer (some ⟨w.heap.size + 1, 0, none⟩), .pointer (some ⟨g, 0, none⟩)]] w3 (SchRes w3 (nextR ⟨s.id + 1, setName s.cols (s.cols.findIdx (named nm)) nw, s.next⟩))) := by
                refine next_any 70 _ s ⟨s.id + 1, setName s.cols (s.cols.findIdx (named nm)) nw, s.next⟩ A cap w3 (by omega) (by simp only [setName_length]; omega) HS3.out.at_ ⟨by omega, by omega⟩ rfl ?_ ?_ ?_
                · intro c hc
                  simp only [setName] at hc
                  obtain ⟨i, hi1, hi2⟩ := List.mem_iff_getElem.1 hc
                  rw [List.getElem_modify] at hi2
                  split at hi2
                  · subst hi2; exact hn
                  · subst hi2; exact hs.names _ (List.getElem_mem _)
                · intro args w9
                  kernel_rfl
                · intro w5 p base cap1 A1 h1 h2 h3 h4 h5 h6
                  obtain ⟨b2, b1, b0, _⟩ := HF3.out
                  have lb := b2.lt
                  have hcell := (h1.cell (p := ⟨g, 0, none⟩) (by simp only; omega)).trans hgc3
                  rw [HY.out] at hcell
                  refine (rename1_any p (w.heap.size + 1) g base (s.cols.findIdx (named nm)) s.cols.length cap1 A1 (s.id + 1) s.next nw s.cols w5 h5 (At.z1 (b1.below h1 (by omega)).at0) hcell h6 rfl y2).mono ?_
                  rintro e w6 ⟨he, g3, g4, g5⟩
                  obtain ⟨_, _, _, _, _, _, g1, g2, _⟩ := h6.blk (by simp; omega)
                  refine ⟨he, A1, cap1, by rw [setName_length]; exact g1, g2, by simpa only [setName_length] using g3, by simpa only [setName_length] using g4, g5⟩
              go_wp2_with fail
              refine HX.out.mono ?_
              rintro e w4 ⟨A4, cap4, rfl, g1, g2, g3, g4⟩
              have HF4 := hide (HF3.out.after g4)
              clear p0_0 p0_1 p0_2 p1_0 p2_0 p2_1 p2_2 f2
              obtain ⟨b2, b1, b0, _⟩ := HF4.out
              obtain ⟨p2_0, p2_1, p2_2⟩ := At.z3 b2.at0
              have p1_0 := At.z1 b1.at0
              obtain ⟨p0_0, p0_1, p0_2⟩ := At.z3 b0.at0
              have f2 := b2.free
              have l2 := b2.lt
              have HR4 := hide b2
              clear b0 b1 b2
              have Hg := hide g4; clear g4
              unfold Sch.val
              go_wp2_with fail
              obtain ⟨t0, t1, t2⟩ := At.z3 (store3 HR4.out (.int .i64 (nextR ⟨s.id + 1, setName s.cols (s.cols.findIdx (named nm)) nw, s.next⟩).1.id) (.slice A4 (nextR ⟨s.id + 1, setName s.cols (s.cols.findIdx (named nm)) nw, s.next⟩).1.cols.length cap4) (.int .i64 (nextR ⟨s.id + 1, setName s.cols (s.cols.findIdx (named nm)) nw, s.next⟩).1.next))
              refine bodyPost_ret (v := .tuple #[(nextR ⟨s.id + 1, setName s.cols (s.cols.findIdx (named nm)) nw, s.next⟩).1.val A4 cap4, .int .i64 (nextR ⟨s.id + 1, setName s.cols (s.cols.findIdx (named nm)) nw, s.next⟩).2]) (by simp [results, Tryd.results19, go_sem, t0, t1, t2, Sch.val]) rfl ?_
              rw [renameR_next Hm.out (by omega) Hn.out HC.out]
              exact SchRes.store g1 g2 g3 (HB3.out.trans (Hg.out.mono (by omega))) (by omega) HR4.out (by omega)
            · have hkk : (idx (named nw) s.cols != idx (named nm) s.cols) = true := by simp [hk]
              go_wp2_with fail
              obtain ⟨t0, t1, t2⟩ := At.z3 (store3 HR3.out (.int .i64 0) (.slice none 0 0) (.int .i64 0))
              refine bodyPost_ret (v := .tuple #[.agg #[.int .i64 0, .slice none 0 0, .int .i64 0], .int .i64 1201]) (by simp [results, Tryd.results19, go_sem, t0, t1, t2]) rfl ?_
              rw [renameR_there Hm.out (by omega) Hn.out hj hk]
              exact SchRes.err (below3 HB3.out (by omega) _ _ _)
          · have hj' : idx (named nw) s.cols < 0 := by omega
            obtain ⟨y1, y2⟩ := idx_yes (p := named nm) (l := s.cols) (by omega)
            have HY := hide y1; clear y1
            have HC : Hid (¬ (0 ≤ idx (named nw) s.cols ∧ idx (named nw) s.cols ≠ idx (named nm) s.cols)) := fun hh => hj hh.1
            have HX : Hid (Calls Tryd.prog 63 #[.agg #[.int .i64 s.id, .slice A s.cols.length cap, .int .i64 s.next], .func (.func 70) #[] #[.pointer (some ⟨w.heap.size + 1, 0, none⟩), .pointer (some ⟨g, 0, none⟩)]] w3 (SchRes w3 (nextR ⟨s.id + 1, setName s.cols (s.cols.findIdx (named nm)) nw, s.next⟩))) := by
              refine next_any 70 _ s ⟨s.id + 1, setName s.cols (s.cols.findIdx (named nm)) nw, s.next⟩ A cap w3 (by omega) (by simp only [setName_length]; omega) HS3.out.at_ ⟨by omega, by omega⟩ rfl ?_ ?_ ?_
              · intro c hc
                simp only [setName] at hc
                obtain ⟨i, hi1, hi2⟩ := List.mem_iff_getElem.1 hc
                rw [List.getElem_modify] at hi2
                split at hi2
                · subst hi2; exact hn
                · subst hi2; exact hs.names _ (List.getElem_mem _)
              · intro args w9
                kernel_rfl
              · intro w5 p base cap1 A1 h1 h2 h3 h4 h5 h6
                obtain ⟨b2, b1, b0, _⟩ := HF3.out
                have lb := b2.lt
                have hcell := (h1.cell (p := ⟨g, 0, none⟩) (by simp only; omega)).trans hgc3
                rw [HY.out] at hcell
                refine (rename1_any p (w.heap.size + 1) g base (s.cols.findIdx (named nm)) s.cols.length cap1 A1 (s.id + 1) s.next nw s.cols w5 h5 (At.z1 (b1.below h1 (by omega)).at0) hcell h6 rfl y2).mono ?_
                rintro e w6 ⟨he, g3, g4, g5⟩
                obtain ⟨_, _, _, _, _, _, g1, g2, _⟩ := h6.blk (by simp; omega)
                refine ⟨he, A1, cap1, by rw [setName_length]; exact g1, g2, by simpa only [setName_length] using g3, by simpa only [setName_length] using g4, g5⟩
            go_wp2_with fail
            refine HX.out.mono ?_
            rintro e w4 ⟨A4, cap4, rfl, g1, g2, g3, g4⟩
            have HF4 := hide (HF3.out.after g4)
            clear p0_0 p0_1 p0_2 p1_0 p2_0 p2_1 p2_2 f2
            obtain ⟨b2, b1, b0, _⟩ := HF4.out
            obtain ⟨p2_0, p2_1, p2_2⟩ := At.z3 b2.at0
            have p1_0 := At.z1 b1.at0
            obtain ⟨p0_0, p0_1, p0_2⟩ := At.z3 b0.at0
            have f2 := b2.free
            have l2 := b2.lt
            have HR4 := hide b2
            clear b0 b1 b2
            have Hg := hide g4; clear g4
            unfold Sch.val
            go_wp2_with fail
            obtain ⟨t0, t1, t2⟩ := At.z3 (store3 HR4.out (.int .i64 (nextR ⟨s.id + 1, setName s.cols (s.cols.findIdx (named nm)) nw, s.next⟩).1.id) (.slice A4 (nextR ⟨s.id + 1, setName s.cols (s.cols.findIdx (named nm)) nw, s.next⟩).1.cols.length cap4) (.int .i64 (nextR ⟨s.id + 1, setName s.cols (s.cols.findIdx (named nm)) nw, s.next⟩).1.next))
            refine bodyPost_ret (v := .tuple #[(nextR ⟨s.id + 1, setName s.cols (s.cols.findIdx (named nm)) nw, s.next⟩).1.val A4 cap4, .int .i64 (nextR ⟨s.id + 1, setName s.cols (s.cols.findIdx (named nm)) nw, s.next⟩).2]) (by simp [results, Tryd.results19, go_sem, t0, t1, t2, Sch.val]) rfl ?_
            rw [renameR_next Hm.out (by omega) Hn.out HC.out]
            exact SchRes.store g1 g2 g3 (HB3.out.trans (Hg.out.mono (by omega))) (by omega) HR4.out (by omega)
end Go.Proofs.YtfojdjmeefglcaaDoor
