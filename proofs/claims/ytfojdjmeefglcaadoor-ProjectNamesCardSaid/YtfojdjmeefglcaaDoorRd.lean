import Derived.Test.YtfojdjmeefglcaaDoorRc
import Derived.Test.YtfojdjmeefglcaaDoorSp
namespace Go.Proofs.YtfojdjmeefglcaaDoor
open Go.RowKit

set_option maxRecDepth 10000 in
set_option maxHeartbeats 4000000 in
theorem radd_any {w0 : World} (s : Sch) (A : Option Addr) (cap : Nat) (nm : ByteArray) (k : Int) (w : World) (h : SchIn w0 s A cap) [hf : Fut w0 w] :
    Calls Tryd.prog 16 #[s.val A cap, .string nm, .int .i64 k] w (SchRes w (addR s nm k)) := by
  have hl := h.len
  have HB := hide (((Blks.nil_ w).push 24 [.int .i64 s.id, .slice A s.cols.length cap, .int .i64 s.next]).push 24 [.int .i64 0, .slice none 0 0, .int .i64 0])
  simp only [hsz] at HB
  unfold Sch.val
  go_enter Tryd.func16, Tryd.ntmps16
  go_wp2_with fail
  refine (rmay_any s A cap _ h).mono ?_
  rintro e w1 ⟨rfl, hs_w1⟩
  have z1 := hs_w1.size
  simp only [hsz] at z1
  obtain ⟨br, bp, _⟩ := Blks.after (fut _ w1) HB.out
  obtain ⟨r0, r1, r2⟩ := At.z3 br.at0
  have fr := br.free; have lr := br.lt; have Br := hide br; clear br
  obtain ⟨p0, p1, p2⟩ := At.z3 bp.at0
  have fp := bp.free; have lp := bp.lt; have Bp := hide bp; clear bp
  cases h_Hm : mayB s with
  | false =>
    have Hm := hide h_Hm; clear h_Hm
    go_wp2_with fail
    obtain ⟨t0, t1, t2⟩ := At.z3 (store3 Br.out (.int .i64 0) (.slice none 0 0) (.int .i64 0))
    refine bodyPost_ret (v := .tuple #[.agg #[.int .i64 0, .slice none 0 0, .int .i64 0], .int .i64 1200]) (by simp [results, Tryd.results16, go_sem, t0, t1, t2]) rfl ?_
    rw [addR_may Hm.out]
    exact SchRes.err (below3 (fut w w1) (by omega) _ _ _)
  | true =>
    have Hm := hide h_Hm; clear h_Hm
    obtain ⟨i1, i2, i3, i4, i5⟩ := addR_inv Hm.out
    go_wp2_with fail
    refine (rname_any nm _).mono ?_
    rintro e w_ ⟨rfl, rfl⟩
    cases h_Hn : nameB nm with
    | false =>
      have Hn := hide h_Hn; clear h_Hn
      go_wp2_with fail
      obtain ⟨t0, t1, t2⟩ := At.z3 (store3 Br.out (.int .i64 0) (.slice none 0 0) (.int .i64 0))
      refine bodyPost_ret (v := .tuple #[.agg #[.int .i64 0, .slice none 0 0, .int .i64 0], .int .i64 1201]) (by simp [results, Tryd.results16, go_sem, t0, t1, t2]) rfl ?_
      rw [addR_name Hm.out Hn.out]
      exact SchRes.err (below3 (fut w w1) (by omega) _ _ _)
    | true =>
      have Hn := hide h_Hn; clear h_Hn
      go_wp2_with fail
      refine (rfind_any s A cap nm _ h).mono ?_
      rintro e w2 ⟨rfl, hs_w2⟩
      clear r0 r1 r2 fr lr Br p0 p1 p2 fp lp Bp
      obtain ⟨br, bp, _⟩ := Blks.after (fut _ w2) HB.out
      obtain ⟨r0, r1, r2⟩ := At.z3 br.at0
      have fr := br.free; have lr := br.lt; have Br := hide br; clear br
      obtain ⟨p0, p1, p2⟩ := At.z3 bp.at0
      have fp := bp.free; have lp := bp.lt; have Bp := hide bp; clear bp
      have z2 := hs_w2.size
      have hx := idx_bd (named nm) s.cols
      obtain ⟨hx1, hx2⟩ := hx
      by_cases h_F : 0 ≤ idx (named nm) s.cols
      · go_wp2_with fail
        obtain ⟨t0, t1, t2⟩ := At.z3 (store3 Br.out (.int .i64 0) (.slice none 0 0) (.int .i64 0))
        refine bodyPost_ret (v := .tuple #[.agg #[.int .i64 0, .slice none 0 0, .int .i64 0], .int .i64 1201]) (by simp [results, Tryd.results16, go_sem, t0, t1, t2]) rfl ?_
        rw [addR_there Hm.out Hn.out h_F]
        exact SchRes.err (below3 (fut w w2) (by omega) _ _ _)
      · have h_F' : ¬ 0 ≤ idx (named nm) s.cols := by omega
        clear h_F
        have h_F'' : idx (named nm) s.cols < 0 := by omega
        go_wp2_with fail
        refine (rkind_any k _).mono ?_
        rintro e w_ ⟨rfl, rfl⟩
        cases h_Hk : kindB k with
        | false =>
          have Hk := hide h_Hk; clear h_Hk
          go_wp2_with fail
          obtain ⟨t0, t1, t2⟩ := At.z3 (store3 Br.out (.int .i64 0) (.slice none 0 0) (.int .i64 0))
          refine bodyPost_ret (v := .tuple #[.agg #[.int .i64 0, .slice none 0 0, .int .i64 0], .int .i64 1200]) (by simp [results, Tryd.results16, go_sem, t0, t1, t2]) rfl ?_
          rw [addR_kind Hm.out Hn.out (by omega) Hk.out]
          exact SchRes.err (below3 (fut w w2) (by omega) _ _ _)
        | true =>
          have Hk := hide h_Hk; clear h_Hk
          by_cases h_L : 12 ≤ s.cols.length
          · go_wp2_with fail
            obtain ⟨t0, t1, t2⟩ := At.z3 (store3 Br.out (.int .i64 0) (.slice none 0 0) (.int .i64 0))
            refine bodyPost_ret (v := .tuple #[.agg #[.int .i64 0, .slice none 0 0, .int .i64 0], .int .i64 1203]) (by simp [results, Tryd.results16, go_sem, t0, t1, t2]) rfl ?_
            rw [addR_full Hm.out Hn.out (by omega) Hk.out h_L]
            exact SchRes.err (below3 (fut w w2) (by omega) _ _ _)
          · have h_L' : ¬ 12 ≤ s.cols.length := by omega
            clear h_L
            have h_L'' : s.cols.length < 12 := by omega
            by_cases h_O : 2147483647 ≤ s.id
            · go_wp2_with fail
              obtain ⟨t0, t1, t2⟩ := At.z3 (store3 Br.out (.int .i64 0) (.slice none 0 0) (.int .i64 0))
              refine bodyPost_ret (v := .tuple #[.agg #[.int .i64 0, .slice none 0 0, .int .i64 0], .int .i64 1200]) (by simp [results, Tryd.results16, go_sem, t0, t1, t2]) rfl ?_
              rw [addR_over Hm.out Hn.out (by omega) Hk.out (by omega) (.inl h_O)]
              exact SchRes.err (below3 (fut w w2) (by omega) _ _ _)
            · have h_O' : s.id < 2147483647 := by omega
              clear h_O
              by_cases h_P : 2147483647 ≤ s.next
              · go_wp2_with fail
                obtain ⟨t0, t1, t2⟩ := At.z3 (store3 Br.out (.int .i64 0) (.slice none 0 0) (.int .i64 0))
                refine bodyPost_ret (v := .tuple #[.agg #[.int .i64 0, .slice none 0 0, .int .i64 0], .int .i64 1200]) (by simp [results, Tryd.results16, go_sem, t0, t1, t2]) rfl ?_
                rw [addR_over Hm.out Hn.out (by omega) Hk.out (by omega) (.inr h_P)]
                exact SchRes.err (below3 (fut w w2) (by omega) _ _ _)
              · have h_P' : s.next < 2147483647 := by omega
                clear h_P
                go_wp2_with fail
                refine (rcopy_any s A cap _ h).mono ?_
                rintro e w3 ⟨A1, c1, rfl, hc1, hc2, hown, hs_w3⟩
                clear r0 r1 r2 fr lr Br p0 p1 p2 fp lp Bp
                obtain ⟨br, bp, _⟩ := Blks.after (fut _ w3) HB.out
                obtain ⟨r0, r1, r2⟩ := At.z3 br.at0
                have fr := br.free; have lr := br.lt; have Br := hide br; clear br
                obtain ⟨p0, p1, p2⟩ := At.z3 bp.at0
                have fp := bp.free; have lp := bp.lt; have Bp := hide bp; clear bp
                have z3 := hs_w3.size
                have HO := hide ((hown.alloc (.cells #[.int .i64 s.id, .slice A1 s.cols.length c1, .int .i64 s.next] 24)).alloc (.cells #[.int .i64 s.next, .string nm, .int .i64 k] 49)); clear hown
                have HOB := hide ((Blk.new w3 [.int .i64 s.id, .slice A1 s.cols.length c1, .int .i64 s.next] 24).alloc (.cells #[.int .i64 s.next, .string nm, .int .i64 k] 49))
                have HS := hide (SlAt.one_at (w := w3.alloc (.cells #[.int .i64 s.id, .slice A1 s.cols.length c1, .int .i64 s.next] 24)) (b := w3.heap.size + 1) (by simp) 3 [.int .i64 s.next, .string nm, .int .i64 k] 49)
                have HF : Hid (Fit 3 [[Value.int .i64 s.next, .string nm, .int .i64 k]]) := cols_fit [⟨s.next, nm, k⟩]
                unfold Sch.val
                go_wp2_with (at_builtin; go_loud (refine wpList_append_sl rfl (.tmp 49) (.tmp 55) 22 rfl eiCol (base := w2.heap.size) (xs := s.cols.map Col.cells) rfl HO.out (cols_fit _) (ys := [[Value.int .i64 s.next, .string nm, .int .i64 k]]) rfl (by simp) HS.out HF.out (by simp; omega) (by simp; omega) (N := s.cols.length + 1) (by simp) ?_; intro A4 c4 w4 hc3 hc4 hown4 hgr4 hbel4; have HOB4 := hide (HOB.out.grown hgr4 (HO.out.ne_ HOB.out (by decide))); have HR4 := hide (((Br.out.alloc _).alloc _).below hbel4 (by omega)); have H4 := hide hown4; have HBL := hide hbel4; clear hown4 hgr4 hbel4 r0 r1 r2 p0 p1 p2 fr fp; obtain ⟨o0, o1, o2⟩ := At.z3 HOB4.out.at0; obtain ⟨r0, r1, r2⟩ := At.z3 HR4.out.at0; have fo := HOB4.out.free; have fr := HR4.out.free; have lo := HOB4.out.lt; have lr' := HR4.out.lt))
                obtain ⟨w5, hw5⟩ : ∃ w5, w5 = ((w4.setCell ⟨w3.heap.size, 1, none⟩ (.slice A4 (s.cols.length + 1) c4)).setCell ⟨w3.heap.size, 0, none⟩ (.int .i64 (s.id + 1))).setCell ⟨w3.heap.size, 2, none⟩ (.int .i64 (s.next + 1)) := ⟨_, rfl⟩
                have HR5 : Hid (Blk w5 (w.heap.size + 1) 24 [.int .i64 0, .slice none 0 0, .int .i64 0]) := by rw [hw5]; exact ((HR4.out.far (p := ⟨w3.heap.size, 1, none⟩) (by simp; omega) _).far (p := ⟨w3.heap.size, 0, none⟩) (by simp; omega) _).far (p := ⟨w3.heap.size, 2, none⟩) (by simp; omega) _
                have HO5 : Hid (Own w5 w2.heap.size 49 3 (.slice A4 (s.cols ++ [(⟨s.next, nm, k⟩ : Col)]).length c4) ((s.cols ++ [(⟨s.next, nm, k⟩ : Col)]).map Col.cells)) := by
                  rw [hw5, List.map_append, List.length_append]
                  exact ((H4.out.set_other HOB4.out (by decide) 1 _).set_other (HOB4.out.set_ 1 _) (by decide) 0 _).set_other ((HOB4.out.set_ 1 _).set_ 0 _) (by decide) 2 _
                have HB5 : Hid (Below w.heap.size w w5) := by
                  rw [hw5]
                  exact ((((fut w (((w3.alloc _).alloc _))).trans (HBL.out.mono (by omega))).setCell (by simp; omega) _).setCell (by simp; omega) _).setCell (by simp; omega) _
                rw [← hw5]
                clear hw5
                obtain ⟨t0, t1, t2⟩ := At.z3 (store3 HR5.out (.int .i64 (s.id + 1)) (.slice A4 (s.cols.length + 1) c4) (.int .i64 (s.next + 1)))
                refine bodyPost_ret (v := .tuple #[.agg #[.int .i64 (s.id + 1), .slice A4 (s.cols.length + 1) c4, .int .i64 (s.next + 1)], .int .i64 0]) (by simp [results, Tryd.results16, go_sem, t0, t1, t2]) rfl ?_
                rw [addR_ok Hm.out Hn.out (by omega) Hk.out (by omega) (by omega) (by omega)]
                have q := SchRes.store (s := ⟨s.id + 1, s.cols ++ [⟨s.next, nm, k⟩], s.next + 1⟩) (n := 0) (w := w) (w0 := w2) (by simpa using hc3) hc4 HO5.out HB5.out (by omega) HR5.out (by omega)
                simpa [Sch.val] using q

set_option maxRecDepth 10000 in
set_option maxHeartbeats 4000000 in
theorem rdrop_any {w0 : World} (s : Sch) (A : Option Addr) (cap : Nat) (nm : ByteArray) (w : World) (h : SchIn w0 s A cap) [hf : Fut w0 w] :
    Calls Tryd.prog 18 #[s.val A cap, .string nm] w (SchRes w (dropR s nm)) := by
  have hl := h.len
  have HB := hide (((Blks.nil_ w).push 24 [.int .i64 s.id, .slice A s.cols.length cap, .int .i64 s.next]).push 24 [.int .i64 0, .slice none 0 0, .int .i64 0])
  simp only [hsz] at HB
  unfold Sch.val
  go_enter Tryd.func18, Tryd.ntmps18
  go_wp2_with fail
  refine (rmay_any s A cap _ h).mono ?_
  rintro e w1 ⟨rfl, hs_w1⟩
  have z1 := hs_w1.size
  simp only [hsz] at z1
  obtain ⟨br, bp, _⟩ := Blks.after (fut _ w1) HB.out
  obtain ⟨r0, r1, r2⟩ := At.z3 br.at0
  have fr := br.free; have lr := br.lt; have Br := hide br; clear br
  obtain ⟨p0, p1, p2⟩ := At.z3 bp.at0
  have fp := bp.free; have lp := bp.lt; have Bp := hide bp; clear bp
  cases h_Hm : mayB s with
  | false =>
    have Hm := hide h_Hm; clear h_Hm
    go_wp2_with fail
    obtain ⟨t0, t1, t2⟩ := At.z3 (store3 Br.out (.int .i64 0) (.slice none 0 0) (.int .i64 0))
    refine bodyPost_ret (v := .tuple #[.agg #[.int .i64 0, .slice none 0 0, .int .i64 0], .int .i64 1200]) (by simp [results, Tryd.results18, go_sem, t0, t1, t2]) rfl ?_
    rw [dropR_may Hm.out]
    exact SchRes.err (below3 (fut w w1) (by omega) _ _ _)
  | true =>
    have Hm := hide h_Hm; clear h_Hm
    obtain ⟨i1, i2, i3, i4, i5⟩ := addR_inv Hm.out
    go_wp2_with fail
    refine (rfind_any s A cap nm _ h).mono ?_
    rintro e w2 ⟨rfl, hs_w2⟩
    clear r0 r1 r2 fr lr Br p0 p1 p2 fp lp Bp
    obtain ⟨br, bp, _⟩ := Blks.after (fut _ w2) HB.out
    obtain ⟨r0, r1, r2⟩ := At.z3 br.at0
    have fr := br.free; have lr := br.lt; have Br := hide br; clear br
    obtain ⟨p0, p1, p2⟩ := At.z3 bp.at0
    have fp := bp.free; have lp := bp.lt; have Bp := hide bp; clear bp
    have z2 := hs_w2.size
    have hx := idx_bd (named nm) s.cols
    obtain ⟨hx1, hx2⟩ := hx
    by_cases h_F : idx (named nm) s.cols < 0
    · go_wp2_with fail
      obtain ⟨t0, t1, t2⟩ := At.z3 (store3 Br.out (.int .i64 0) (.slice none 0 0) (.int .i64 0))
      refine bodyPost_ret (v := .tuple #[.agg #[.int .i64 0, .slice none 0 0, .int .i64 0], .int .i64 1202]) (by simp [results, Tryd.results18, go_sem, t0, t1, t2]) rfl ?_
      rw [dropR_none Hm.out h_F]
      exact SchRes.err (below3 (fut w w2) (by omega) _ _ _)
    · have h_F' : 0 ≤ idx (named nm) s.cols := by omega
      clear h_F
      by_cases h_L : s.cols.length = 1
      · have h_L'' : ((s.cols.length : Int) == 1) = true := by simp [h_L]
        have HLL := hide h_L; clear h_L
        go_wp2_with fail
        obtain ⟨t0, t1, t2⟩ := At.z3 (store3 Br.out (.int .i64 0) (.slice none 0 0) (.int .i64 0))
        refine bodyPost_ret (v := .tuple #[.agg #[.int .i64 0, .slice none 0 0, .int .i64 0], .int .i64 1203]) (by simp [results, Tryd.results18, go_sem, t0, t1, t2]) rfl ?_
        rw [dropR_one Hm.out (by omega) HLL.out]
        exact SchRes.err (below3 (fut w w2) (by omega) _ _ _)
      · have h_L' : ¬ s.cols.length = 1 := by omega
        clear h_L
        have h_L'' : ((s.cols.length : Int) == 1) = false := by simp; omega
        by_cases h_O : 2147483647 ≤ s.id
        · go_wp2_with fail
          obtain ⟨t0, t1, t2⟩ := At.z3 (store3 Br.out (.int .i64 0) (.slice none 0 0) (.int .i64 0))
          refine bodyPost_ret (v := .tuple #[.agg #[.int .i64 0, .slice none 0 0, .int .i64 0], .int .i64 1200]) (by simp [results, Tryd.results18, go_sem, t0, t1, t2]) rfl ?_
          rw [dropR_over Hm.out (by omega) h_L' (by omega)]
          exact SchRes.err (below3 (fut w w2) (by omega) _ _ _)
        · have h_O' : s.id < 2147483647 := by omega
          clear h_O
          obtain ⟨e1, e2⟩ := idx_yes (p := named nm) (l := s.cols) (by omega)
          have E9 := hide (dropR_ok (nm := nm) Hm.out (by omega) h_L' (by omega))
          obtain ⟨k, hk⟩ : ∃ k, s.cols.findIdx (named nm) = k := ⟨_, rfl⟩
          rw [hk] at e1 e2 E9
          rw [e1]
          have hx3 : (k : Int) < (s.cols.length : Int) := by omega
          clear hk e1 hx1 hx2
          have hcp := h.hcap
          have hcpm := h.hcapm
          have hp3 : k ≤ cap := by omega
          obtain ⟨b, off, rfl, hb, _⟩ := h.at_.elem (w' := w2) inferInstance (k := 0) (by simp; omega)
          have hat := h.at_
          obtain ⟨ob, hob⟩ : ∃ ob : Obj, ob = .cells #[.int .i64 (s.id + 1), .slice none 0 0, .int .i64 s.next] 24 := ⟨_, rfl⟩
          have HOB : Hid (Blk (w2.alloc ob).drew w2.heap.size 24 [.int .i64 (s.id + 1), .slice none 0 0, .int .i64 s.next]) := by rw [hob]; exact (Blk.new w2 [.int .i64 (s.id + 1), .slice none 0 0, .int .i64 s.next] 24)
          have HS1 : Hid (SlAt (w2.alloc ob).drew (w2.alloc ob).drew.heap.size 3 (some ⟨b, off, none⟩) ((s.cols.take k).map Col.cells)) := by
            have := (hat.fut (w' := (w2.alloc ob).drew)).take_ k
            rwa [← List.map_take] at this
          have HL1 : Hid (k = ((s.cols.take k).map Col.cells).length) := by show _ = _; simp; omega
          have HB1 : Hid ((([] : List (List Value)).length + ((s.cols.take k).map Col.cells).length) * 32 ≤ 140737488355328) := by show _ ≤ _; simp; omega
          have HZ1 : Hid (w2.heap.size + 1 ≤ (w2.alloc ob).drew.heap.size) := by show _ ≤ _; simp
          have HN1 : Hid (([] : List (List Value)).length + ((s.cols.take k).map Col.cells).length = k) := by show _ = _; simp; omega
          have HBr := hide ((Br.out.alloc ob).drew); have HBp := hide ((Bp.out.alloc ob).drew)
          have HFU : Hid (Below w.heap.size w (w2.alloc ob).drew) := fut w _
          subst hob
          go_wp2
          go_region_law (refine step_append_sl rfl (.tmp 37) (.tmp 41) 22 rfl eiCol (base := w2.heap.size + 1) (v := .slice none 0 0) (xs := []) ?hs1 (Own.nil_ _ _ _ _) Fit.nil_ (A := some ⟨b, off, none⟩) (c := cap) (n := k) ?hs2 HL1.out HS1.out (cols_fit _) HB1.out HZ1.out (N := k) HN1.out ?_; (case hs1 => simp [Act.eval, Act.put]); (case hs2 => simp [Act.eval, Act.put]); intro A3 c3 w3 hc1 hc2 hown3 hgr3 hbel3; have HO3 := hide hown3; have HBL3 := hide hbel3; clear hown3 hgr3 hbel3 r0 r1 r2 p0 p1 p2 fr fp; have B3o := hide (HOB.out.below HBL3.out (by omega)); have B3r := hide (HBr.out.below HBL3.out (by omega)); have B3p := hide (HBp.out.below HBL3.out (by omega)); obtain ⟨o0, o1, o2⟩ := At.z3 B3o.out.at0; have fo := B3o.out.free; have lo := B3o.out.lt)
          all_goals
            have C3o := hide (B3o.out.set_ 1 (.slice A3 k c3))
            have C3r := hide (B3r.out.far (p := ⟨w2.heap.size, 1, none⟩) (by simp; omega) (.slice A3 k c3))
            have C3p := hide (B3p.out.far (p := ⟨w2.heap.size, 1, none⟩) (by simp; omega) (.slice A3 k c3))
            have HO3' := hide (HO3.out.set_other B3o.out (by decide) 1 (.slice A3 k c3))
            have hz3 : (w3.setCell ⟨w2.heap.size, 1, none⟩ (.slice A3 k c3)).heap.size = w3.heap.size := by simp [World.setCell]
            have HF3 : Hid (Below w.heap.size w (w3.setCell ⟨w2.heap.size, 1, none⟩ (.slice A3 k c3))) := (HFU.out.trans (HBL3.out.mono (by omega))).setCell (by simp; omega) _
            have HK3 : Hid (Below w0.heap.size w0 (w3.setCell ⟨w2.heap.size, 1, none⟩ (.slice A3 k c3))) := hf.below.trans (HF3.out.mono hf.below.size)
            clear o0 o1 o2 fo lo
            have hl3 : w2.heap.size < w3.heap.size := B3o.out.lt
            obtain ⟨w4, hw4⟩ : ∃ w4, w4 = w3.setCell ⟨w2.heap.size, 1, none⟩ (.slice A3 k c3) := ⟨_, rfl⟩
            rw [← hw4] at C3o C3r C3p HO3' HF3 HK3 hz3 ⊢
            have HZ3 := hide hz3
            clear hw4 hz3
            obtain ⟨o0, o1, o2⟩ := At.z3 C3o.out.at0
            obtain ⟨r0, r1, r2⟩ := At.z3 C3r.out.at0
            obtain ⟨p0, p1, p2⟩ := At.z3 C3p.out.at0
            have fo := C3o.out.free
            have fr := C3r.out.free
            have fp := C3p.out.free
            obtain ⟨A5, hA5⟩ : ∃ A5 : Option Addr, (if cap = k + 1 then some (⟨b, off, none⟩ : Addr) else some ⟨b, off + (k + 1) * 3, none⟩) = A5 := ⟨_, rfl⟩
            have HS2 : Hid (SlAt w4.drew w4.drew.heap.size 3 A5 ((s.cols.drop (k + 1)).map Col.cells)) := by
              have k0 : SlAt w4.drew w4.drew.heap.size 3 (some ⟨b, off, none⟩) (s.cols.map Col.cells) := (hat.keep HK3.out).more HK3.out.size
              have := k0.tail (cap := cap) (k + 1) (by simpa using hcp)
              rw [hA5, ← List.map_drop] at this
              exact this
            have HL2 : Hid (s.cols.length - (k + 1) = ((s.cols.drop (k + 1)).map Col.cells).length) := by show _ = _; simp
            have HB2 : Hid ((((s.cols.take k).map Col.cells).length + ((s.cols.drop (k + 1)).map Col.cells).length) * 32 ≤ 140737488355328) := by show _ ≤ _; simp; omega
            have HZ2 : Hid (w2.heap.size + 1 ≤ w4.drew.heap.size) := by show _ ≤ _; simp [HZ3.out]; omega
            have HN2 : Hid (((s.cols.take k).map Col.cells).length + ((s.cols.drop (k + 1)).map Col.cells).length = s.cols.length - 1) := by show _ = _; simp; omega
            have hwr : IntKind.i64.wrap ((k : Int) + 1) = (k : Int) + 1 := by rw [IntKind.wrap_i64]; omega
            have hp0 : (0 : Int) ≤ (k : Int) + 1 := by omega
            have hp1 : (k : Int) + 1 ≤ (s.cols.length : Int) := by omega
            have hp2 : ((k : Int) + 1).toNat = k + 1 := by omega
            go_wp2
            go_region_law (refine step_append_sl rfl (.tmp 45) (.tmp 50) 22 rfl eiCol (base := w2.heap.size + 1) (v := .slice A3 k c3) ?hs1 HO3'.out.drew (cols_fit _) (A := A5) (c := cap - (k + 1)) (n := s.cols.length - (k + 1)) ?hs2 HL2.out HS2.out (cols_fit _) HB2.out HZ2.out (N := s.cols.length - 1) HN2.out ?_; (case hs1 => simp [Act.eval, Act.put]); (case hs2 => simp [Act.eval, Act.put]); intro A6 c6 w6 hc3 hc4 hown6 hgr6 hbel6; have HO6 := hide hown6; have HBL6 := hide hbel6; clear hown6 hgr6 hbel6 r0 r1 r2 p0 p1 p2 fr fp o0 o1 o2 fo; have B6o := hide (C3o.out.drew.below HBL6.out (by omega)); have B6r := hide (C3r.out.drew.below HBL6.out (by omega)); obtain ⟨o0, o1, o2⟩ := At.z3 B6o.out.at0; obtain ⟨r0, r1, r2⟩ := At.z3 B6r.out.at0; have fo := B6o.out.free; have fr := B6r.out.free)
            all_goals
              have C6o := hide (B6o.out.set_ 1 (.slice A6 (s.cols.length - 1) c6))
              have C6r := hide (B6r.out.far (p := ⟨w2.heap.size, 1, none⟩) (by simp; omega) (.slice A6 (s.cols.length - 1) c6))
              have HO6' := hide (HO6.out.set_other B6o.out (by decide) 1 (.slice A6 (s.cols.length - 1) c6))
              have HF6 : Hid (Below w.heap.size w (w6.setCell ⟨w2.heap.size, 1, none⟩ (.slice A6 (s.cols.length - 1) c6))) := (HF3.out.drew.trans (HBL6.out.mono (by omega))).setCell (by simp; omega) _
              clear o0 o1 o2 fo r0 r1 r2 fr hwr hp0 hp1 hp2 hA5
              obtain ⟨w7, hw7⟩ : ∃ w7, w7 = w6.setCell ⟨w2.heap.size, 1, none⟩ (.slice A6 (s.cols.length - 1) c6) := ⟨_, rfl⟩
              rw [← hw7] at C6o C6r HO6' HF6 ⊢
              clear hw7
              obtain ⟨o0, o1, o2⟩ := At.z3 C6o.out.at0
              obtain ⟨r0, r1, r2⟩ := At.z3 C6r.out.at0
              have fr := C6r.out.free
              go_wp2
              obtain ⟨t0, t1, t2⟩ := At.z3 (store3 C6r.out (.int .i64 (s.id + 1)) (.slice A6 (s.cols.length - 1) c6) (.int .i64 s.next))
              refine bodyPost_ret (v := .tuple #[.agg #[.int .i64 (s.id + 1), .slice A6 (s.cols.length - 1) c6, .int .i64 s.next], .int .i64 0]) (by simp [results, Tryd.results18, go_sem, t0, t1, t2]) rfl ?_
              rw [E9.out]
              have hel : (s.cols.eraseIdx k).length = s.cols.length - 1 := by rw [List.length_eraseIdx, if_pos e2]
              have hec : (s.cols.eraseIdx k).map Col.cells = (s.cols.take k).map Col.cells ++ (s.cols.drop (k + 1)).map Col.cells := by rw [List.eraseIdx_eq_take_drop_succ, List.map_append]
              have q := SchRes.store (s := ⟨s.id + 1, s.cols.eraseIdx k, s.next⟩) (n := 0) (w := w) (w0 := w2) (A := A6) (cap := c6) (by simp only [hel]; exact hc3) hc4 (by simp only [hel, hec]; exact HO6'.out.more (by omega)) HF6.out (by omega) C6r.out (by omega)
              simpa only [Sch.val, hel] using q
end Go.Proofs.YtfojdjmeefglcaaDoor
