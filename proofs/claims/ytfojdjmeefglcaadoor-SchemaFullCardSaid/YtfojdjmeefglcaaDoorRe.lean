import Derived.Test.YtfojdjmeefglcaaDoorRc
import Derived.Test.YtfojdjmeefglcaaDoorSp
namespace Go.Proofs.YtfojdjmeefglcaaDoor
open Go.RowKit

/-- What the document's NewSchema answers. -/
def rnewR (ns : List ByteArray) (ks : List Int) : Sch × Int := if ns.length ≠ ks.length then (Sch.zero, 1200) else nextR ⟨0, newCols ns ks 0, ns.length + 1⟩
theorem newR_eq (ns : List ByteArray) (ks : List Int) : newR ns ks = rnewR ns ks := by
  unfold newR rnewR
  by_cases h : ns.length = ks.length
  · by_cases h2 : 12 < ns.length
    · rw [if_pos (.inr h2), if_neg (by omega), nextR, if_neg]
      intro e
      obtain ⟨⟨_, _, _, a, _⟩, _⟩ := mayB_iff.1 e
      simp only [newCols_length ns ks 0 h] at a
      omega
    · rw [if_neg (by omega), if_neg (by omega)]
  · rw [if_pos (.inl h), if_pos h]

set_option maxRecDepth 10000 in
set_option maxHeartbeats 4000000 in
theorem rrename_any {w0 : World} (s : Sch) (A : Option Addr) (cap : Nat) (nm tn : ByteArray) (w : World) (h : SchIn w0 s A cap) [hf : Fut w0 w] :
    Calls Tryd.prog 20 #[s.val A cap, .string nm, .string tn] w (SchRes w (renameR s nm tn)) := by
  have hl := h.len
  have HB := hide (((Blks.nil_ w).push 24 [.int .i64 s.id, .slice A s.cols.length cap, .int .i64 s.next]).push 24 [.int .i64 0, .slice none 0 0, .int .i64 0])
  simp only [hsz] at HB
  unfold Sch.val
  go_enter Tryd.func20, Tryd.ntmps20
  go_wp2_with fail
  refine (rmay_any s A cap _ h).mono ?_
  rintro e w1 ⟨rfl, hs_w1⟩
  have z1 := hs_w1.size
  simp only [hsz] at z1
  obtain ⟨br, bp, _⟩ := Blks.after (fut _ w1) HB.out
  obtain ⟨r0, r1, r2⟩ := At.z3 br.at0
  have fr := br.free; have lr := br.lt; have Br := hide br; clear br
  obtain ⟨p0, p1, p2⟩ := At.z3 bp.at0
  have fp := bp.free; have lp := bp.lt; have Bp := hide bp; clear bp
  cases h_Hm : mayB s with
  | false =>
    have Hm := hide h_Hm; clear h_Hm
    go_wp2_with fail
    obtain ⟨t0, t1, t2⟩ := At.z3 (store3 Br.out (.int .i64 0) (.slice none 0 0) (.int .i64 0))
    refine bodyPost_ret (v := .tuple #[.agg #[.int .i64 0, .slice none 0 0, .int .i64 0], .int .i64 1200]) (by simp [results, Tryd.results20, go_sem, t0, t1, t2]) rfl ?_
    rw [renameR_may Hm.out]
    exact SchRes.err (below3 (fut w w1) (by omega) _ _ _)
  | true =>
    have Hm := hide h_Hm; clear h_Hm
    obtain ⟨i1, i2, i3, i4, i5⟩ := addR_inv Hm.out
    go_wp2_with fail
    refine (rfind_any s A cap nm _ h).mono ?_
    rintro e w2 ⟨rfl, hs_w2⟩
    clear r0 r1 r2 fr lr Br p0 p1 p2 fp lp Bp
    obtain ⟨br, bp, _⟩ := Blks.after (fut _ w2) HB.out
    obtain ⟨r0, r1, r2⟩ := At.z3 br.at0
    have fr := br.free; have lr := br.lt; have Br := hide br; clear br
    obtain ⟨p0, p1, p2⟩ := At.z3 bp.at0
    have fp := bp.free; have lp := bp.lt; have Bp := hide bp; clear bp
    have z2 := hs_w2.size
    go_wp2_with fail
    refine (rfind_any s A cap tn _ h).mono ?_
    rintro e w3 ⟨rfl, hs_w3⟩
    clear r0 r1 r2 fr lr Br p0 p1 p2 fp lp Bp
    obtain ⟨br, bp, _⟩ := Blks.after (fut _ w3) HB.out
    obtain ⟨r0, r1, r2⟩ := At.z3 br.at0
    have fr := br.free; have lr := br.lt; have Br := hide br; clear br
    obtain ⟨p0, p1, p2⟩ := At.z3 bp.at0
    have fp := bp.free; have lp := bp.lt; have Bp := hide bp; clear bp
    have z3 := hs_w3.size
    obtain ⟨hx1, hx2⟩ := idx_bd (named nm) s.cols
    obtain ⟨hy1, hy2⟩ := idx_bd (named tn) s.cols
    by_cases h_F : idx (named nm) s.cols < 0
    · go_wp2_with fail
      obtain ⟨t0, t1, t2⟩ := At.z3 (store3 Br.out (.int .i64 0) (.slice none 0 0) (.int .i64 0))
      refine bodyPost_ret (v := .tuple #[.agg #[.int .i64 0, .slice none 0 0, .int .i64 0], .int .i64 1202]) (by simp [results, Tryd.results20, go_sem, t0, t1, t2]) rfl ?_
      rw [renameR_none Hm.out h_F]
      exact SchRes.err (below3 (fut w w3) (by omega) _ _ _)
    · have h_F' : 0 ≤ idx (named nm) s.cols := by omega
      clear h_F
      go_wp2_with fail
      refine (rname_any tn _).mono ?_
      rintro e w_ ⟨rfl, rfl⟩
      cases h_Hn : nameB tn with
      | false =>
        have Hn := hide h_Hn; clear h_Hn
        go_wp2_with fail
        obtain ⟨t0, t1, t2⟩ := At.z3 (store3 Br.out (.int .i64 0) (.slice none 0 0) (.int .i64 0))
        refine bodyPost_ret (v := .tuple #[.agg #[.int .i64 0, .slice none 0 0, .int .i64 0], .int .i64 1201]) (by simp [results, Tryd.results20, go_sem, t0, t1, t2]) rfl ?_
        rw [renameR_name Hm.out (by omega) Hn.out]
        exact SchRes.err (below3 (fut w w3) (by omega) _ _ _)
      | true =>
        have Hn := hide h_Hn; clear h_Hn
        by_cases h_J : 0 ≤ idx (named tn) s.cols ∧ idx (named tn) s.cols ≠ idx (named nm) s.cols
        · obtain ⟨h_J1, h_J2⟩ := h_J
          have hj1 : (idx (named tn) s.cols == idx (named nm) s.cols) = false := by simpa using h_J2
          have HJ2 := hide h_J2; clear h_J2
          go_wp2_with fail
          obtain ⟨t0, t1, t2⟩ := At.z3 (store3 Br.out (.int .i64 0) (.slice none 0 0) (.int .i64 0))
          refine bodyPost_ret (v := .tuple #[.agg #[.int .i64 0, .slice none 0 0, .int .i64 0], .int .i64 1201]) (by simp [results, Tryd.results20, go_sem, t0, t1, t2]) rfl ?_
          rw [renameR_there Hm.out (by omega) Hn.out (by omega) HJ2.out]
          exact SchRes.err (below3 (fut w w3) (by omega) _ _ _)
        · have HJ := hide h_J; clear h_J
          have h_J : idx (named tn) s.cols < 0 ∨ 0 ≤ idx (named tn) s.cols ∧ (idx (named tn) s.cols == idx (named nm) s.cols) = true := by
            rcases Int.lt_or_le (idx (named tn) s.cols) 0 with h | h
            · exact .inl h
            · exact .inr ⟨h, by simpa using fun hne => HJ.out ⟨h, hne⟩⟩
          rcases h_J with h_J | ⟨h_J, h_J2⟩
          all_goals
            by_cases h_O : 2147483647 ≤ s.id
            · go_wp2_with fail
              obtain ⟨t0, t1, t2⟩ := At.z3 (store3 Br.out (.int .i64 0) (.slice none 0 0) (.int .i64 0))
              refine bodyPost_ret (v := .tuple #[.agg #[.int .i64 0, .slice none 0 0, .int .i64 0], .int .i64 1200]) (by simp [results, Tryd.results20, go_sem, t0, t1, t2]) rfl ?_
              rw [renameR_over Hm.out (by omega) Hn.out HJ.out (by omega)]
              exact SchRes.err (below3 (fut w w3) (by omega) _ _ _)
            · have h_O' : s.id < 2147483647 := by omega
              clear h_O
              obtain ⟨e1, e2⟩ := idx_yes (p := named nm) (l := s.cols) (by omega)
              have E9 := hide (renameR_ok (s := s) (nm := nm) Hm.out (by omega) Hn.out HJ.out (by omega))
              obtain ⟨k, hk⟩ : ∃ k, s.cols.findIdx (named nm) = k := ⟨_, rfl⟩
              rw [hk] at e1 e2 E9
              have E1 := hide e1
              have hx9 : (k : Int) < (s.cols.length : Int) := by omega
              clear hk e1
              go_wp2_with fail
              refine (rcopy_any s A cap _ h).mono ?_
              rintro e w4 ⟨A1, c1, rfl, hc1, hc2, hown, hs_w4⟩
              clear r0 r1 r2 fr lr Br p0 p1 p2 fp lp Bp
              obtain ⟨br, bp, _⟩ := Blks.after (fut _ w4) HB.out
              obtain ⟨r0, r1, r2⟩ := At.z3 br.at0
              have fr := br.free; have lr := br.lt; have Br := hide br; clear br
              obtain ⟨p0, p1, p2⟩ := At.z3 bp.at0
              have fp := bp.free; have lp := bp.lt; have Bp := hide bp; clear bp
              have z4 := hs_w4.size
              unfold Sch.val
              rw [E1.out]
              obtain ⟨c, hc⟩ : ∃ c, s.cols[k]? = some c := ⟨_, List.getElem?_eq_getElem e2⟩
              obtain ⟨g, rfl, hgb, hgl, hga, hgf, hput⟩ := hown.put (cols_fit _).len (k := k) (j := 1) (cs := c.cells) (by simp [hc]) (by decide)
              have HC := hide hc
              obtain ⟨g0, g1, g2⟩ := At.l3 hga
              have hkc : k < c1 := by omega
              have hf1 := hgf (k * 3 + 1)
              have HPUT := hide (hput (.string tn))
              clear hown hput hga hc hgf hx1 hx2 hy1 hy2 h_J
              have HR5 := hide ((((((Br.out.far (p := ⟨g, k * 3 + 1, none⟩) (by simp; omega) (.string tn))).set_ 0 (.int .i64 (s.id + 1))).set_ 1 (.slice (some ⟨g, 0, none⟩) s.cols.length c1)).set_ 2 (.int .i64 s.next)).alloc (.cells #[.int .i64 (s.id + 1), .slice (some ⟨g, 0, none⟩) s.cols.length c1, .int .i64 s.next] 24))
              have HO5 := hide ((HPUT.out.store3 (Br.out.far (p := ⟨g, k * 3 + 1, none⟩) (by simp; omega) (.string tn)) (by show (49 : Nat) ≠ 24; decide) (.int .i64 (s.id + 1)) (.slice (some ⟨g, 0, none⟩) s.cols.length c1) (.int .i64 s.next)).alloc (.cells #[.int .i64 (s.id + 1), .slice (some ⟨g, 0, none⟩) s.cols.length c1, .int .i64 s.next] 24))
              have HB5 := hide ((below3 ((fut w w4).setCell (p := ⟨g, k * 3 + 1, none⟩) (by simp; omega) (.string tn)) (r := w.heap.size + 1) (by omega) (.int .i64 (s.id + 1)) (.slice (some ⟨g, 0, none⟩) s.cols.length c1) (.int .i64 s.next)).alloc (by simp [World.setCell]; omega) (.cells #[.int .i64 (s.id + 1), .slice (some ⟨g, 0, none⟩) s.cols.length c1, .int .i64 s.next] 24))
              go_wp2
              obtain ⟨t0, t1, t2⟩ := At.z3 HR5.out.at0
              refine bodyPost_ret (v := .tuple #[.agg #[.int .i64 (s.id + 1), .slice (some ⟨g, 0, none⟩) s.cols.length c1, .int .i64 s.next], .int .i64 0]) (by simp [results, Tryd.results20, go_sem, t0, t1, t2]) rfl ?_
              rw [E9.out]
              have hel : (setName s.cols k tn).length = s.cols.length := setName_length _ _ _
              have hec : (setName s.cols k tn).map Col.cells = (s.cols.map Col.cells).set k (c.cells.set 1 (.string tn)) := by
                apply List.ext_getElem?
                intro i
                have h9 : s.cols[k] = c := (List.getElem?_eq_some_iff.1 HC.out).2
                simp only [setName, List.getElem?_map, List.getElem?_modify, List.getElem?_set, List.length_map]
                by_cases hik : k = i
                · subst hik; simp [h9, e2, Col.cells]
                · simp [hik]
              refine ⟨some ⟨g, 0, none⟩, c1, by simp only [Sch.val, hel], by simp only [hel]; exact hc1, hc2, ?_, HB5.out⟩
              simp only [hel, hec]
              exact HO5.out.more (by omega)

set_option maxRecDepth 10000 in
set_option maxHeartbeats 4000000 in
theorem rnew_any (ns : List ByteArray) (ks : List Int) (An Ak : Option Addr) (cn ck : Nat) {wn wk : World} (w : World) (hn : SlAt wn wn.heap.size 1 An (strCells ns)) (hk : SlAt wk wk.heap.size 1 Ak (intCells ks)) [fn : Fut wn w] [fk : Fut wk w]
    (hns : (ns.length + 2) * 32 ≤ 140737488355328) (hnm : ∀ n ∈ ns, n.size ≤ 9223372036854775807) :
    Calls Tryd.prog 28 #[.slice An ns.length cn, .slice Ak ks.length ck] w (SchRes w (rnewR ns ks)) := by
  by_cases hl : ns.length = ks.length
  · have HL := hide hl
    have HKL := hide hl.symm
    clear hl
    rw [HKL.out]
    have HLN := hide (newCols_length ns ks 0 HL.out)
    go_enter Tryd.func28, Tryd.ntmps28
    go_wp2
    have HF1 := hide (((Blks.nil_ w).push 24 [.int .i64 0, .slice none 0 0, .int .i64 0]).push 24 [.int .i64 0, .slice none 0 0, .int .i64 (ns.length + 1)])
    simp only [hsz] at HF1
    go_loopw [7] (fun i wr => ∃ (k : Nat) (A' : Option Addr) (cap' : Nat), k ≤ ns.length ∧ i = .int .i64 k ∧ Blk wr (w.heap.size + 1) 24 [.int .i64 0, .slice A' k cap', .int .i64 (ns.length + 1)] ∧ k ≤ cap' ∧ cap' ≤ maxLen ∧
        Own wr (w.heap.size + 2) 49 3 (.slice A' k cap') (((newCols ns ks 0).take k).map Col.cells) ∧ Blk wr w.heap.size 24 [.int .i64 0, .slice none 0 0, .int .i64 0] ∧ Step w wr ∧ w.heap.size + 2 ≤ wr.heap.size)
      (fun i _ => ns.length - (intOf i).toNat)
    case atStart =>
      obtain ⟨b1, b0, _⟩ := HF1.out
      exact ⟨0, none, 0, Nat.zero_le _, rfl, b1, Nat.le_refl _, by simp [maxLen], by simpa using Own.nil_ _ _ _ _, b0, Step.of, by simp⟩
    case round =>
      obtain ⟨k, A', cap', hk1, rfl, hp, hc1, hc2, hown, hr, hst, hz⟩ := hrel
      have HR := hide hr; clear hr
      have HBW := hide hst.below
      by_cases hlt : k < ns.length
      · obtain ⟨nm, hnm1⟩ : ∃ nm, ns[k]? = some nm := ⟨_, List.getElem?_eq_getElem hlt⟩
        obtain ⟨kd, hkd1⟩ : ∃ kd, ks[k]? = some kd := ⟨_, List.getElem?_eq_getElem (by have := HKL.out; omega)⟩
        have HC := hide (newCols_get ns ks 0 k nm kd hnm1 hkd1)
        obtain ⟨bn, on, rfl, hbn, hcn⟩ := hn.elem (w' := wr) inferInstance (k := k) (by simp [strCells]; omega)
        have n1 := At.l1 (hcn k [.string nm] (by simp [strCells, hnm1]))
        obtain ⟨bk, ok, rfl, hbk, hck⟩ := hk.elem (w' := wr) inferInstance (k := k) (by have := HKL.out; simp [intCells]; omega)
        have n2 := At.l1 (hck k [.int .i64 kd] (by simp [intCells, hkd1]))
        simp only [Nat.mul_one] at n1 n2
        clear hcn hck hnm1 hkd1
        have hp' := hp
        obtain ⟨p0, p1, p2⟩ := At.z3 hp'.at0
        have f1 := hp'.free
        have l1 := hp.lt
        have HP := hide hp; clear hp hp'
        have HOWN := hide hown; clear hown
        have hgn := fn.below.size; have hgk := fk.below.size
        obtain ⟨o, ho⟩ : ∃ o : Obj, o = .cells #[.int .i64 ((k : Int) + 1), .string nm, .int .i64 kd] 49 := ⟨_, rfl⟩
        have HO : Hid (Own (wr.alloc o).drew (w.heap.size + 2) 49 3 (.slice A' k cap') (((newCols ns ks 0).take k).map Col.cells)) := (HOWN.out.alloc o).drew
        have HS : Hid (SlAt (wr.alloc o).drew (wr.alloc o).drew.heap.size 3 (some ⟨wr.heap.size, 0, none⟩) [[.int .i64 ((k : Int) + 1), .string nm, .int .i64 kd]]) := by
          rw [ho]; exact SlAt.one wr.drew 3 [.int .i64 ((k : Int) + 1), .string nm, .int .i64 kd] 49
        have HFt : Hid (Fit 3 [[.int .i64 ((k : Int) + 1), .string nm, .int .i64 kd]]) := cols_fit [⟨(k : Int) + 1, nm, kd⟩]
        have HPo : Hid (Blk (wr.alloc o).drew (w.heap.size + 1) 24 [.int .i64 0, .slice A' k cap', .int .i64 (ns.length + 1)]) := (HP.out.alloc o).drew
        have HLe : Hid (((((newCols ns ks 0).take k).map Col.cells).length + [[Value.int .i64 ((k : Int) + 1), .string nm, .int .i64 kd]].length) * 32 ≤ 140737488355328) := by
          show _ ≤ _; simp [HLN.out]; omega
        have HBs : Hid (w.heap.size + 2 ≤ (wr.alloc o).drew.heap.size) := by show _ ≤ _; simp; omega
        have HN : Hid ((((newCols ns ks 0).take k).map Col.cells).length + [[Value.int .i64 ((k : Int) + 1), .string nm, .int .i64 kd]].length = k + 1) := by show _ = _; simp [HLN.out]; omega
        subst ho
        have hwr : IntKind.i64.wrap ((k : Int) + 1) = (k : Int) + 1 := by rw [IntKind.wrap_i64]; omega
        go_wp2
        go_region_law (refine step_append_sl rfl (.tmp 25) (.tmp 37) 22 rfl eiCol (v := .slice A' k cap') ?hs1 HO.out (cols_fit _) (A := some ⟨wr.heap.size, 0, none⟩) (c := 1) (n := 1) ?hs2 rfl HS.out HFt.out HLe.out HBs.out (N := k + 1) HN.out ?_; (case hs1 => simp [Act.eval]); (case hs2 => simp [Act.eval]); intro A1 cap1 w1 hq1 hq2 hown1 hgr1 hbel1; have hp1 := HPo.out.grown hgr1 (HO.out.ne_ HPo.out (by decide)); obtain ⟨c0, c1, c2⟩ := At.z3 hp1.at0; have f1' := hp1.free 1; have H1 := hide hp1; have H2 := hide hgr1; have H3 := hide hown1; have H4 := hide hbel1; clear hp1 hgr1 hbel1 hown1)
        all_goals
          clear n1 n2 p0 p1 p2 f1 c0 c1 c2 f1' hwr
          go_wp2
          go_roundw
          case rel =>
            have hb1 : Below (w.heap.size + 2) wr w1 := (Below.drew ((Below.refl _ _).alloc hz _)).trans H4.out
            refine ⟨k + 1, A1, cap1, by omega, by go_num, by simpa using H1.out.set_ 1 (.slice A1 (k + 1) cap1), hq1, hq2, ?_, ?_, ⟨?_⟩, ?_⟩
            · rw [List.take_add_one, HC.out, List.map_append]
              have := H3.out.set_other H1.out (by decide) 1 (.slice A1 (k + 1) cap1)
              simpa [Col.cells] using this
            · exact (HR.out.below hb1 (by omega)).far (by simp) _
            · exact (HBW.out.trans (hb1.mono (by omega))).setCell (by simp) _
            · have := hb1.size
              simp [World.setCell]
              omega
          case measure => simp [intOf]; omega
      · obtain rfl : k = ns.length := by omega
        rw [List.take_of_length_le (by rw [HLN.out]; exact Nat.le_refl _)] at hown
        have hsin : SchIn wr ⟨0, newCols ns ks 0, ns.length + 1⟩ A' cap' := ⟨by simp only [HLN.out]; exact hc1, by simpa [maxLen] using hc2, by simp only [HLN.out]; omega, hown.sl (cols_fit _).len, fun c hc => hnm _ (newCols_mem ns ks 0 c hc)⟩
        have hc := rmay_any ⟨0, newCols ns ks 0, ns.length + 1⟩ A' cap' wr hsin
        unfold Sch.val at hc
        simp only [HLN.out] at hc
        have HM := hide hc
        obtain ⟨p0, p1, p2⟩ := At.z3 hp.at0
        have l1 := hp.lt
        have HP := hide hp; clear hp hc hsin
        have HOWN := hide hown; clear hown
        cases hmay : mayB ⟨0, newCols ns ks 0, ns.length + 1⟩ with
        | true =>
          have HMY := hide hmay; clear hmay
          go_wp2_with (refine HM.out.mono ?_; rintro e w4 ⟨rfl, hs4⟩; rw [HMY.out]; have hb4 := hs4.below; obtain ⟨q0, q1, q2⟩ := At.z3 (HP.out.below hb4 (by omega)).at0; obtain ⟨r0, r1, r2⟩ := At.z3 (HR.out.below hb4 (by omega)).at0; have g0 := (HR.out.below hb4 (by omega)).free; have s5 := hb4.size; have H4 := hide hb4; clear hb4)
          have hr4 := HR.out.below H4.out (by omega)
          obtain ⟨t0, t1, t2⟩ := At.z3 (store3 hr4 (.int .i64 0) (.slice A' ns.length cap') (.int .i64 (ns.length + 1)))
          refine bodyPost_ret (v := .tuple #[.agg #[.int .i64 0, .slice A' ns.length cap', .int .i64 (ns.length + 1)], .int .i64 0]) (by simp [results, Tryd.results28, go_sem, t0, t1, t2]) rfl ?_
          rw [rnewR, if_neg (by have := HL.out; omega), nextR, if_pos HMY.out]
          have := SchRes.store (w := w) (w0 := w) (w' := w4) (s := ⟨0, newCols ns ks 0, ns.length + 1⟩) (n := 0) (A := A') (cap := cap') (by simp only [HLN.out]; exact hc1) hc2
            (by simp only [HLN.out]; exact (HOWN.out.keep H4.out (Nat.le_refl _)).more (by omega)) (HBW.out.trans (H4.out.mono (by omega))) (by omega) hr4 (Nat.le_refl _)
          simpa only [Sch.val, HLN.out] using this
        | false =>
          have HMY := hide hmay; clear hmay
          go_wp2_with (refine HM.out.mono ?_; rintro e w4 ⟨rfl, hs4⟩; rw [HMY.out]; have hb4 := hs4.below; obtain ⟨q0, q1, q2⟩ := At.z3 (HP.out.below hb4 (by omega)).at0; obtain ⟨r0, r1, r2⟩ := At.z3 (HR.out.below hb4 (by omega)).at0; have g0 := (HR.out.below hb4 (by omega)).free; have s5 := hb4.size; have H4 := hide hb4; clear hb4)
          have hr4 := HR.out.below H4.out (by omega)
          obtain ⟨t0, t1, t2⟩ := At.z3 (store3 hr4 (.int .i64 0) (.slice none 0 0) (.int .i64 0))
          refine bodyPost_ret (v := .tuple #[.agg #[.int .i64 0, .slice none 0 0, .int .i64 0], .int .i64 1200]) (by simp [results, Tryd.results28, go_sem, t0, t1, t2]) rfl ?_
          rw [rnewR, if_neg (by have := HL.out; omega), nextR, if_neg (by rw [HMY.out]; simp)]
          exact SchRes.err (below3 (HBW.out.trans (H4.out.mono (by omega))) (Nat.le_refl _) _ _ _)
  · have hb : ((ns.length : Int) != (ks.length : Int)) = true := by simp; omega
    have HL := hide hl
    clear hl
    go_enter Tryd.func28, Tryd.ntmps28
    go_wp2
    refine bodyPost_ret (v := .tuple #[.agg #[.int .i64 0, .slice none 0 0, .int .i64 0], .int .i64 1200]) (by simp [results, Tryd.results28, go_sem]) rfl ?_
    rw [rnewR, if_pos HL.out]
    exact SchRes.err ((below_a1 w _))
end Go.Proofs.YtfojdjmeefglcaaDoor
