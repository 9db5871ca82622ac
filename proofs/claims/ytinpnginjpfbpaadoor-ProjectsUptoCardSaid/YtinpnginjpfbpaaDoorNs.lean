/-
  The document's own answer: NewSchema.
-/
import Derived.Test.YtinpnginjpfbpaaDoorRb
import Derived.Test.YtinpnginjpfbpaaDoorSp
namespace Go.Proofs.YtinpnginjpfbpaaDoor
open Go.RowKit

/-- What the document's NewSchema answers. -/
def rnewR (ns : List ByteArray) (ks : List Int) : Sch × Int := if ns.length ≠ ks.length then (Sch.zero, 1200) else nextR ⟨0, newCols ns ks 0, ns.length + 1⟩
theorem newR_eq (ns : List ByteArray) (ks : List Int) : newR ns ks = rnewR ns ks := by
  unfold newR rnewR
  by_cases h : ns.length = ks.length
  · by_cases h2 : 12 < ns.length
    · rw [if_pos (.inr h2), if_neg (by omega), nextR, if_neg]
      intro e
      obtain ⟨⟨_, _, _, a, _⟩, _⟩ := mayB_iff.1 e
      simp only [newCols_length ns ks 0 h] at a
      omega
    · rw [if_neg (by omega), if_neg (by omega)]
  · rw [if_pos (.inl h), if_pos h]

set_option maxRecDepth 10000 in
set_option maxHeartbeats 4000000 in
theorem rnew_any (ns : List ByteArray) (ks : List Int) (An Ak : Option Addr) (cn ck : Nat) {wn wk : World} (w : World) (hn : SlAt wn wn.heap.size 1 An (strCells ns)) (hk : SlAt wk wk.heap.size 1 Ak (intCells ks)) [fn : Fut wn w] [fk : Fut wk w]
    (hns : (ns.length + 2) * 32 ≤ 140737488355328) (hnm : ∀ n ∈ ns, n.size ≤ 9223372036854775807) :
    Calls Tryd.prog 32 #[.slice An ns.length cn, .slice Ak ks.length ck] w (SchRes w (rnewR ns ks)) := by
  by_cases hl : ns.length = ks.length
  · have HL := hide hl
    have HKL := hide hl.symm
    clear hl
    rw [HKL.out]
    have HLN := hide (newCols_length ns ks 0 HL.out)
    go_enter Tryd.func32, Tryd.ntmps32
    go_wp2
    have HF1 := hide (((Blks.nil_ w).push 24 [.int .i64 0, .slice none 0 0, .int .i64 0]).push 24 [.int .i64 0, .slice none 0 0, .int .i64 (ns.length + 1)])
    simp only [hsz] at HF1
    go_loopw [7] (fun i wr => ∃ (k : Nat) (A' : Option Addr) (cap' : Nat), k ≤ ns.length ∧ i = .int .i64 k ∧ Blk wr (w.heap.size + 1) 24 [.int .i64 0, .slice A' k cap', .int .i64 (ns.length + 1)] ∧ k ≤ cap' ∧ cap' ≤ maxLen ∧
        Own wr (w.heap.size + 2) 53 3 (.slice A' k cap') (((newCols ns ks 0).take k).map Col.cells) ∧ Blk wr w.heap.size 24 [.int .i64 0, .slice none 0 0, .int .i64 0] ∧ Step w wr ∧ w.heap.size + 2 ≤ wr.heap.size)
      (fun i _ => ns.length - (intOf i).toNat)
    case atStart =>
      obtain ⟨b1, b0, _⟩ := HF1.out
      exact ⟨0, none, 0, Nat.zero_le _, rfl, b1, Nat.le_refl _, by simp [maxLen], by simpa using Own.nil_ _ _ _ _, b0, Step.of, by simp⟩
    case round =>
      obtain ⟨k, A', cap', hk1, rfl, hp, hc1, hc2, hown, hr, hst, hz⟩ := hrel
      have HR := hide hr; clear hr
      have HBW := hide hst.below
      by_cases hlt : k < ns.length
      · obtain ⟨nm, hnm1⟩ : ∃ nm, ns[k]? = some nm := ⟨_, List.getElem?_eq_getElem hlt⟩
        obtain ⟨kd, hkd1⟩ : ∃ kd, ks[k]? = some kd := ⟨_, List.getElem?_eq_getElem (by have := HKL.out; omega)⟩
        have HC := hide (newCols_get ns ks 0 k nm kd hnm1 hkd1)
        obtain ⟨bn, on, rfl, hbn, hcn⟩ := hn.elem (w' := wr) inferInstance (k := k) (by simp [strCells]; omega)
        have n1 := At.l1 (hcn k [.string nm] (by simp [strCells, hnm1]))
        obtain ⟨bk, ok, rfl, hbk, hck⟩ := hk.elem (w' := wr) inferInstance (k := k) (by have := HKL.out; simp [intCells]; omega)
        have n2 := At.l1 (hck k [.int .i64 kd] (by simp [intCells, hkd1]))
        simp only [Nat.mul_one] at n1 n2
        clear hcn hck hnm1 hkd1
        have hp' := hp
        obtain ⟨p0, p1, p2⟩ := At.z3 hp'.at0
        have f1 := hp'.free
        have l1 := hp.lt
        have HP := hide hp; clear hp hp'
        have HOWN := hide hown; clear hown
        have hgn := fn.below.size; have hgk := fk.below.size
        obtain ⟨o, ho⟩ : ∃ o : Obj, o = .cells #[.int .i64 ((k : Int) + 1), .string nm, .int .i64 kd] 53 := ⟨_, rfl⟩
        have HO : Hid (Own (wr.alloc o).drew (w.heap.size + 2) 53 3 (.slice A' k cap') (((newCols ns ks 0).take k).map Col.cells)) := (HOWN.out.alloc o).drew
        have HS : Hid (SlAt (wr.alloc o).drew (wr.alloc o).drew.heap.size 3 (some ⟨wr.heap.size, 0, none⟩) [[.int .i64 ((k : Int) + 1), .string nm, .int .i64 kd]]) := by
          rw [ho]; exact SlAt.one wr.drew 3 [.int .i64 ((k : Int) + 1), .string nm, .int .i64 kd] 53
        have HFt : Hid (Fit 3 [[.int .i64 ((k : Int) + 1), .string nm, .int .i64 kd]]) := cols_fit [⟨(k : Int) + 1, nm, kd⟩]
        have HPo : Hid (Blk (wr.alloc o).drew (w.heap.size + 1) 24 [.int .i64 0, .slice A' k cap', .int .i64 (ns.length + 1)]) := (HP.out.alloc o).drew
        have HLe : Hid (((((newCols ns ks 0).take k).map Col.cells).length + [[Value.int .i64 ((k : Int) + 1), .string nm, .int .i64 kd]].length) * 32 ≤ 140737488355328) := by
          show _ ≤ _; simp [HLN.out]; omega
        have HBs : Hid (w.heap.size + 2 ≤ (wr.alloc o).drew.heap.size) := by show _ ≤ _; simp; omega
        have HN : Hid ((((newCols ns ks 0).take k).map Col.cells).length + [[Value.int .i64 ((k : Int) + 1), .string nm, .int .i64 kd]].length = k + 1) := by show _ = _; simp [HLN.out]; omega
        subst ho
        have hwr : IntKind.i64.wrap ((k : Int) + 1) = (k : Int) + 1 := by rw [IntKind.wrap_i64]; omega
        go_wp2
        go_region_law (refine step_append_sl rfl (.tmp 25) (.tmp 37) 22 rfl eiCol (v := .slice A' k cap') ?hs1 HO.out (cols_fit _) (A := some ⟨wr.heap.size, 0, none⟩) (c := 1) (n := 1) ?hs2 rfl HS.out HFt.out HLe.out HBs.out (N := k + 1) HN.out ?_; (case hs1 => simp [Act.eval]); (case hs2 => simp [Act.eval]); intro A1 cap1 w1 hq1 hq2 hown1 hgr1 hbel1; have hp1 := HPo.out.grown hgr1 (HO.out.ne_ HPo.out (by decide)); obtain ⟨c0, c1, c2⟩ := At.z3 hp1.at0; have f1' := hp1.free 1; have H1 := hide hp1; have H2 := hide hgr1; have H3 := hide hown1; have H4 := hide hbel1; clear hp1 hgr1 hbel1 hown1)
        all_goals
          clear n1 n2 p0 p1 p2 f1 c0 c1 c2 f1' hwr
          go_wp2
          go_roundw
          case rel =>
            have hb1 : Below (w.heap.size + 2) wr w1 := (Below.drew ((Below.refl _ _).alloc hz _)).trans H4.out
            refine ⟨k + 1, A1, cap1, by omega, by go_num, by simpa using H1.out.set_ 1 (.slice A1 (k + 1) cap1), hq1, hq2, ?_, ?_, ⟨?_⟩, ?_⟩
            · rw [List.take_add_one, HC.out, List.map_append]
              have := H3.out.set_other H1.out (by decide) 1 (.slice A1 (k + 1) cap1)
              simpa [Col.cells] using this
            · exact (HR.out.below hb1 (by omega)).far (by simp) _
            · exact (HBW.out.trans (hb1.mono (by omega))).setCell (by simp) _
            · have := hb1.size
              simp [World.setCell]
              omega
          case measure => simp [intOf]; omega
      · obtain rfl : k = ns.length := by omega
        rw [List.take_of_length_le (by rw [HLN.out]; exact Nat.le_refl _)] at hown
        have hsin : SchIn wr ⟨0, newCols ns ks 0, ns.length + 1⟩ A' cap' := ⟨by simp only [HLN.out]; exact hc1, by simpa [maxLen] using hc2, by simp only [HLN.out]; omega, hown.sl (cols_fit _).len, fun c hc => hnm _ (newCols_mem ns ks 0 c hc)⟩
        have hc := rmay_any ⟨0, newCols ns ks 0, ns.length + 1⟩ A' cap' wr hsin
        unfold Sch.val at hc
        simp only [HLN.out] at hc
        have HM := hide hc
        obtain ⟨p0, p1, p2⟩ := At.z3 hp.at0
        have l1 := hp.lt
        have HP := hide hp; clear hp hc hsin
        have HOWN := hide hown; clear hown
        cases hmay : mayB ⟨0, newCols ns ks 0, ns.length + 1⟩ with
        | true =>
          have HMY := hide hmay; clear hmay
          go_wp2_with (refine HM.out.mono ?_; rintro e w4 ⟨rfl, hs4⟩; rw [HMY.out]; have hb4 := hs4.below; obtain ⟨q0, q1, q2⟩ := At.z3 (HP.out.below hb4 (by omega)).at0; obtain ⟨r0, r1, r2⟩ := At.z3 (HR.out.below hb4 (by omega)).at0; have g0 := (HR.out.below hb4 (by omega)).free; have s5 := hb4.size; have H4 := hide hb4; clear hb4)
          have hr4 := HR.out.below H4.out (by omega)
          obtain ⟨t0, t1, t2⟩ := At.z3 (store3 hr4 (.int .i64 0) (.slice A' ns.length cap') (.int .i64 (ns.length + 1)))
          refine bodyPost_ret (v := .tuple #[.agg #[.int .i64 0, .slice A' ns.length cap', .int .i64 (ns.length + 1)], .int .i64 0]) (by simp [results, Tryd.results32, go_sem, t0, t1, t2]) rfl ?_
          rw [rnewR, if_neg (by have := HL.out; omega), nextR, if_pos HMY.out]
          have := SchRes.store (w := w) (w0 := w) (w' := w4) (s := ⟨0, newCols ns ks 0, ns.length + 1⟩) (n := 0) (A := A') (cap := cap') (by simp only [HLN.out]; exact hc1) hc2
            (by simp only [HLN.out]; exact (HOWN.out.keep H4.out (Nat.le_refl _)).more (by omega)) (HBW.out.trans (H4.out.mono (by omega))) (by omega) hr4 (Nat.le_refl _)
          simpa only [Sch.val, HLN.out] using this
        | false =>
          have HMY := hide hmay; clear hmay
          go_wp2_with (refine HM.out.mono ?_; rintro e w4 ⟨rfl, hs4⟩; rw [HMY.out]; have hb4 := hs4.below; obtain ⟨q0, q1, q2⟩ := At.z3 (HP.out.below hb4 (by omega)).at0; obtain ⟨r0, r1, r2⟩ := At.z3 (HR.out.below hb4 (by omega)).at0; have g0 := (HR.out.below hb4 (by omega)).free; have s5 := hb4.size; have H4 := hide hb4; clear hb4)
          have hr4 := HR.out.below H4.out (by omega)
          obtain ⟨t0, t1, t2⟩ := At.z3 (store3 hr4 (.int .i64 0) (.slice none 0 0) (.int .i64 0))
          refine bodyPost_ret (v := .tuple #[.agg #[.int .i64 0, .slice none 0 0, .int .i64 0], .int .i64 1200]) (by simp [results, Tryd.results32, go_sem, t0, t1, t2]) rfl ?_
          rw [rnewR, if_neg (by have := HL.out; omega), nextR, if_neg (by rw [HMY.out]; simp)]
          exact SchRes.err (below3 (HBW.out.trans (H4.out.mono (by omega))) (Nat.le_refl _) _ _ _)
  · have hb : ((ns.length : Int) != (ks.length : Int)) = true := by simp; omega
    have HL := hide hl
    clear hl
    go_enter Tryd.func32, Tryd.ntmps32
    go_wp2
    refine bodyPost_ret (v := .tuple #[.agg #[.int .i64 0, .slice none 0 0, .int .i64 0], .int .i64 1200]) (by simp [results, Tryd.results32, go_sem]) rfl ?_
    rw [rnewR, if_pos HL.out]
    exact SchRes.err ((below_a1 w _))
end Go.Proofs.YtinpnginjpfbpaaDoor
