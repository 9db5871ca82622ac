import Derived.Test.YtfojdjmeefglcaaDoorRc
import Derived.Test.YtfojdjmeefglcaaDoorSp
import Derived.Test.YtfojdjmeefglcaaDoorNs
namespace Go.Proofs.YtfojdjmeefglcaaDoor
open Go.RowKit


set_option maxRecDepth 10000 in
set_option maxHeartbeats 4000000 in
theorem rrename_any {w0 : World} (s : Sch) (A : Option Addr) (cap : Nat) (nm tn : ByteArray) (w : World) (h : SchIn w0 s A cap) [hf : Fut w0 w] :
    Calls Tryd.prog 20 #[s.val A cap, .string nm, .string tn] w (SchRes w (renameR s nm tn)) := by
  have hl := h.len
  have HB := hide (((Blks.nil_ w).push 24 [.int .i64 s.id, .slice A s.cols.length cap, .int .i64 s.next]).push 24 [.int .i64 0, .slice none 0 0, .int .i64 0])
  simp only [hsz] at HB
  unfold Sch.val
  go_enter Tryd.func20, Tryd.ntmps20
  go_wp2_with fail
  refine (rmay_any s A cap _ h).mono ?_
  rintro e w1 ⟨rfl, hs_w1⟩
  have z1 := hs_w1.size
  simp only [hsz] at z1
  obtain ⟨br, bp, _⟩ := Blks.after (fut _ w1) HB.out
  obtain ⟨r0, r1, r2⟩ := At.z3 br.at0
  have fr := br.free; have lr := br.lt; have Br := hide br; clear br
  obtain ⟨p0, p1, p2⟩ := At.z3 bp.at0
  have fp := bp.free; have lp := bp.lt; have Bp := hide bp; clear bp
  cases h_Hm : mayB s with
  | false =>
    have Hm := hide h_Hm; clear h_Hm
    go_wp2_with fail
    obtain ⟨t0, t1, t2⟩ := At.z3 (store3 Br.out (.int .i64 0) (.slice none 0 0) (.int .i64 0))
    refine bodyPost_ret (v := .tuple #[.agg #[.int .i64 0, .slice none 0 0, .int .i64 0], .int .i64 1200]) (by simp [results, Tryd.results20, go_sem, t0, t1, t2]) rfl ?_
    rw [renameR_may Hm.out]
    exact SchRes.err (below3 (fut w w1) (by omega) _ _ _)
  | true =>
    have Hm := hide h_Hm; clear h_Hm
    obtain ⟨i1, i2, i3, i4, i5⟩ := addR_inv Hm.out
    go_wp2_with fail
    refine (rfind_any s A cap nm _ h).mono ?_
    rintro e w2 ⟨rfl, hs_w2⟩
    clear r0 r1 r2 fr lr Br p0 p1 p2 fp lp Bp
    obtain ⟨br, bp, _⟩ := Blks.after (fut _ w2) HB.out
    obtain ⟨r0, r1, r2⟩ := At.z3 br.at0
    have fr := br.free; have lr := br.lt; have Br := hide br; clear br
    obtain ⟨p0, p1, p2⟩ := At.z3 bp.at0
    have fp := bp.free; have lp := bp.lt; have Bp := hide bp; clear bp
    have z2 := hs_w2.size
    go_wp2_with fail
    refine (rfind_any s A cap tn _ h).mono ?_
    rintro e w3 ⟨rfl, hs_w3⟩
    clear r0 r1 r2 fr lr Br p0 p1 p2 fp lp Bp
    obtain ⟨br, bp, _⟩ := Blks.after (fut _ w3) HB.out
    obtain ⟨r0, r1, r2⟩ := At.z3 br.at0
    have fr := br.free; have lr := br.lt; have Br := hide br; clear br
    obtain ⟨p0, p1, p2⟩ := At.z3 bp.at0
    have fp := bp.free; have lp := bp.lt; have Bp := hide bp; clear bp
    have z3 := hs_w3.size
    obtain ⟨hx1, hx2⟩ := idx_bd (named nm) s.cols
    obtain ⟨hy1, hy2⟩ := idx_bd (named tn) s.cols
    by_cases h_F : idx (named nm) s.cols < 0
    · go_wp2_with fail
      obtain ⟨t0, t1, t2⟩ := At.z3 (store3 Br.out (.int .i64 0) (.slice none 0 0) (.int .i64 0))
      refine bodyPost_ret (v := .tuple #[.agg #[.int .i64 0, .slice none 0 0, .int .i64 0], .int .i64 1202]) (by simp [results, Tryd.results20, go_sem, t0, t1, t2]) rfl ?_
      rw [renameR_none Hm.out h_F]
      exact SchRes.err (below3 (fut w w3) (by omega) _ _ _)
    · have h_F' : 0 ≤ idx (named nm) s.cols := by omega
      clear h_F
      go_wp2_with fail
      refine (rname_any tn _).mono ?_
      rintro e w_ ⟨rfl, rfl⟩
      cases h_Hn : nameB tn with
      | false =>
        have Hn := hide h_Hn; clear h_Hn
        go_wp2_with fail
        obtain ⟨t0, t1, t2⟩ := At.z3 (store3 Br.out (.int .i64 0) (.slice none 0 0) (.int .i64 0))
        refine bodyPost_ret (v := .tuple #[.agg #[.int .i64 0, .slice none 0 0, .int .i64 0], .int .i64 1201]) (by simp [results, Tryd.results20, go_sem, t0, t1, t2]) rfl ?_
        rw [renameR_name Hm.out (by omega) Hn.out]
        exact SchRes.err (below3 (fut w w3) (by omega) _ _ _)
      | true =>
        have Hn := hide h_Hn; clear h_Hn
        by_cases h_J : 0 ≤ idx (named tn) s.cols ∧ idx (named tn) s.cols ≠ idx (named nm) s.cols
        · obtain ⟨h_J1, h_J2⟩ := h_J
          have hj1 : (idx (named tn) s.cols == idx (named nm) s.cols) = false := by simpa using h_J2
          have HJ2 := hide h_J2; clear h_J2
          go_wp2_with fail
          obtain ⟨t0, t1, t2⟩ := At.z3 (store3 Br.out (.int .i64 0) (.slice none 0 0) (.int .i64 0))
          refine bodyPost_ret (v := .tuple #[.agg #[.int .i64 0, .slice none 0 0, .int .i64 0], .int .i64 1201]) (by simp [results, Tryd.results20, go_sem, t0, t1, t2]) rfl ?_
          rw [renameR_there Hm.out (by omega) Hn.out (by omega) HJ2.out]
          exact SchRes.err (below3 (fut w w3) (by omega) _ _ _)
        · have HJ := hide h_J; clear h_J
          have h_J : idx (named tn) s.cols < 0 ∨ 0 ≤ idx (named tn) s.cols ∧ (idx (named tn) s.cols == idx (named nm) s.cols) = true := by
            rcases Int.lt_or_le (idx (named tn) s.cols) 0 with h | h
            · exact .inl h
            · exact .inr ⟨h, by simpa using fun hne => HJ.out ⟨h, hne⟩⟩
          rcases h_J with h_J | ⟨h_J, h_J2⟩
          all_goals
            by_cases h_O : 2147483647 ≤ s.id
            · go_wp2_with fail
              obtain ⟨t0, t1, t2⟩ := At.z3 (store3 Br.out (.int .i64 0) (.slice none 0 0) (.int .i64 0))
              refine bodyPost_ret (v := .tuple #[.agg #[.int .i64 0, .slice none 0 0, .int .i64 0], .int .i64 1200]) (by simp [results, Tryd.results20, go_sem, t0, t1, t2]) rfl ?_
              rw [renameR_over Hm.out (by omega) Hn.out HJ.out (by omega)]
              exact SchRes.err (below3 (fut w w3) (by omega) _ _ _)
            · have h_O' : s.id < 2147483647 := by omega
              clear h_O
              obtain ⟨e1, e2⟩ := idx_yes (p := named nm) (l := s.cols) (by omega)
              have E9 := hide (renameR_ok (s := s) (nm := nm) Hm.out (by omega) Hn.out HJ.out (by omega))
              obtain ⟨k, hk⟩ : ∃ k, s.cols.findIdx (named nm) = k := ⟨_, rfl⟩
              rw [hk] at e1 e2 E9
              have E1 := hide e1
              have hx9 : (k : Int) < (s.cols.length : Int) := by omega
              clear hk e1
              go_wp2_with fail
              refine (rcopy_any s A cap _ h).mono ?_
              rintro e w4 ⟨A1, c1, rfl, hc1, hc2, hown, hs_w4⟩
              clear r0 r1 r2 fr lr Br p0 p1 p2 fp lp Bp
              obtain ⟨br, bp, _⟩ := Blks.after (fut _ w4) HB.out
              obtain ⟨r0, r1, r2⟩ := At.z3 br.at0
              have fr := br.free; have lr := br.lt; have Br := hide br; clear br
              obtain ⟨p0, p1, p2⟩ := At.z3 bp.at0
              have fp := bp.free; have lp := bp.lt; have Bp := hide bp; clear bp
              have z4 := hs_w4.size
              unfold Sch.val
              rw [E1.out]
              obtain ⟨c, hc⟩ : ∃ c, s.cols[k]? = some c := ⟨_, List.getElem?_eq_getElem e2⟩
              obtain ⟨g, rfl, hgb, hgl, hga, hgf, hput⟩ := hown.put (cols_fit _).len (k := k) (j := 1) (cs := c.cells) (by simp [hc]) (by decide)
              have HC := hide hc
              obtain ⟨g0, g1, g2⟩ := At.l3 hga
              have hkc : k < c1 := by omega
              have hf1 := hgf (k * 3 + 1)
              have HPUT := hide (hput (.string tn))
              clear hown hput hga hc hgf hx1 hx2 hy1 hy2 h_J
              have HR5 := hide ((((((Br.out.far (p := ⟨g, k * 3 + 1, none⟩) (by simp; omega) (.string tn))).set_ 0 (.int .i64 (s.id + 1))).set_ 1 (.slice (some ⟨g, 0, none⟩) s.cols.length c1)).set_ 2 (.int .i64 s.next)).alloc (.cells #[.int .i64 (s.id + 1), .slice (some ⟨g, 0, none⟩) s.cols.length c1, .int .i64 s.next] 24))
              have HO5 := hide ((HPUT.out.store3 (Br.out.far (p := ⟨g, k * 3 + 1, none⟩) (by simp; omega) (.string tn)) (by show (49 : Nat) ≠ 24; decide) (.int .i64 (s.id + 1)) (.slice (some ⟨g, 0, none⟩) s.cols.length c1) (.int .i64 s.next)).alloc (.cells #[.int .i64 (s.id + 1), .slice (some ⟨g, 0, none⟩) s.cols.length c1, .int .i64 s.next] 24))
              have HB5 := hide ((below3 ((fut w w4).setCell (p := ⟨g, k * 3 + 1, none⟩) (by simp; omega) (.string tn)) (r := w.heap.size + 1) (by omega) (.int .i64 (s.id + 1)) (.slice (some ⟨g, 0, none⟩) s.cols.length c1) (.int .i64 s.next)).alloc (by simp [World.setCell]; omega) (.cells #[.int .i64 (s.id + 1), .slice (some ⟨g, 0, none⟩) s.cols.length c1, .int .i64 s.next] 24))
              go_wp2
              obtain ⟨t0, t1, t2⟩ := At.z3 HR5.out.at0
              refine bodyPost_ret (v := .tuple #[.agg #[.int .i64 (s.id + 1), .slice (some ⟨g, 0, none⟩) s.cols.length c1, .int .i64 s.next], .int .i64 0]) (by simp [results, Tryd.results20, go_sem, t0, t1, t2]) rfl ?_
              rw [E9.out]
              have hel : (setName s.cols k tn).length = s.cols.length := setName_length _ _ _
              have hec : (setName s.cols k tn).map Col.cells = (s.cols.map Col.cells).set k (c.cells.set 1 (.string tn)) := by
                apply List.ext_getElem?
                intro i
                have h9 : s.cols[k] = c := (List.getElem?_eq_some_iff.1 HC.out).2
                simp only [setName, List.getElem?_map, List.getElem?_modify, List.getElem?_set, List.length_map]
                by_cases hik : k = i
                · subst hik; simp [h9, e2, Col.cells]
                · simp [hik]
              refine ⟨some ⟨g, 0, none⟩, c1, by simp only [Sch.val, hel], by simp only [hel]; exact hc1, hc2, ?_, HB5.out⟩
              simp only [hel, hec]
              exact HO5.out.more (by omega)
end Go.Proofs.YtfojdjmeefglcaaDoor
