/-
  The document's SpecMay.
-/
import Derived.Test.YtfojdjmeefglcaaDoorTe
import Derived.Test.YtfojdjmeefglcaaDoorRb
namespace Go.Proofs.YtfojdjmeefglcaaDoor
open Go.RowKit

def preF (fs : List Fld) (f : Fld) (m : Nat) : Bool := (fs.take m).any (sameF f)
theorem rbyId_any {w0 : World} (s : Sch) (A : Option Addr) (cap : Nat) (id : Int) (w : World) (h : SchIn w0 s A cap) [hf : Fut w0 w] :
    Calls Tryd.prog 96 #[s.val A cap, .int .i64 id] w fun e w' => e = .returned (.int .i64 (idx (colId id) s.cols)) ∧ Step w w' := by
  have hat := h.at_
  have hl := h.len
  obtain ⟨sid, cols, nx⟩ := s
  simp only [Sch.val] at hat hl ⊢
  have hB := hf.below.size
  go_enter Tryd.func96, Tryd.ntmps96
  go_wp2
  go_loop [5] (fun i => ∃ k : Nat, k ≤ cols.length ∧ i = .int .i64 k ∧ k ≤ cols.findIdx (colId id)) (fun i => cols.length - (intOf i).toNat)
  case atStart => exact ⟨0, Nat.zero_le _, rfl, Nat.zero_le _⟩
  case round =>
    obtain ⟨k, hk, rfl, hfi⟩ := hrel
    by_cases hlt : k < cols.length
    · obtain ⟨b, off, rfl, hb, hc⟩ := hat.elem hf (k := k) (by simpa using hlt)
      obtain ⟨h1, h2, h3⟩ := At.l3 (hc k cols[k].cells (by simp [hlt]))
      have hb' : b < w.heap.size := by omega
      clear hc
      cases hp : colId id cols[k] with
      | true =>
        have Hp := Lib.hid hp
        have e : cols.findIdx (colId id) = k := fi_hit (colId id) cols k hlt hfi Hp.out
        have E := hide e; clear e
        have hp' : (cols[k].id == id) = true := hp
        clear hp
        go_wp2
        go_ret
        exact ⟨ret_int (by simp [idx, E.out, hlt]), Step.of⟩
      | false =>
        have Hp := Lib.hid hp
        have hp' : (cols[k].id == id) = false := hp
        clear hp
        go_wp2
        go_round
        case rel => exact ⟨k + 1, by omega, by go_num, fi_miss (colId id) cols k hlt hfi Hp.out⟩
        case measure => simp [intOf]; omega
    · go_wp2_with fail
      go_ret
      exact ⟨ret_int (by rw [idx, if_neg (by omega)]), Step.of⟩

theorem rfieldMay_any (f : Fld) (w : World) : Calls Tryd.prog 87 #[.agg #[.int .i64 f.source, .int .i64 f.trans, .int .i64 f.param]] w fun e w' => e = .returned (.bool (paramB f)) ∧ Step w w' := by
  obtain ⟨so, t, p⟩ := f
  simp only []
  by_cases h0 : t = 0
  · subst h0
    go_enter Tryd.func87, Tryd.ntmps87
    go_wp2_with fail
    go_ret
    exact ⟨rfl, Step.of⟩
  · by_cases h12 : t = 1 ∨ t = 2
    · have HP : Hid (paramB ⟨so, t, p⟩ = (decide (1 ≤ p) && decide (p ≤ 1024))) := by show _ = _; simp only [paramB]; rw [if_neg h0, if_pos h12]
      rw [HP.out]
      clear HP
      by_cases h1 : 1 ≤ p
      · rcases h12 with rfl | rfl
        all_goals
          clear h0
          go_enter Tryd.func87, Tryd.ntmps87
          go_wp2_with fail
          go_ret
          exact ⟨ret_bool (by simp [h1]), Step.of⟩
      · rcases h12 with rfl | rfl
        all_goals
          clear h0
          go_enter Tryd.func87, Tryd.ntmps87
          go_wp2_with fail
          go_ret
          exact ⟨ret_bool (by simp; omega), Step.of⟩
    · have HP : Hid (paramB ⟨so, t, p⟩ = false) := by show _ = _; simp only [paramB]; rw [if_neg h0, if_neg h12]
      rw [HP.out]
      clear HP
      have e0 : (t == 0) = false := by simpa using h0
      have e1 : (t == 1) = false := by simp; omega
      have e2 : (t == 2) = false := by simp; omega
      clear h0 h12
      go_enter Tryd.func87, Tryd.ntmps87
      go_wp2_with fail
      go_ret
      exact ⟨rfl, Step.of⟩

set_option maxRecDepth 100000 in
set_option maxHeartbeats 8000000 in
theorem rspec_any {w0 w1 : World} (id : Int) (fs : List Fld) (Af : Option Addr) (cf : Nat) (s : Sch) (As : Option Addr) (cs : Nat) (w : World) (hfs : FsIn w0 fs Af cf) (hs : SchIn w1 s As cs) [f0 : Fut w0 w] [f1 : Fut w1 w] :
    Calls Tryd.prog 51 #[.agg #[.int .i64 id, .slice Af fs.length cf], s.val As cs] w fun e w' => e = .returned (.bool (specB id fs s)) ∧ Step w w' := by
  have z0 := f0.below.size; have z1 := f1.below.size
  have hcap := hfs.hcap; have hcapm := hfs.hcapm; have hlf := hfs.len; have hls := hs.len
  have pm := fun w' [Fut w1 w'] => rmay_any s As cs w' hs
  unfold Sch.val at pm ⊢
  obtain ⟨W, hW⟩ : ∃ W, W = (w.alloc (.cells #[.int .i64 id, .slice Af fs.length cf] 88)).alloc (.cells #[.int .i64 s.id, .slice As s.cols.length cs, .int .i64 s.next] 24) := ⟨_, rfl⟩
  have SW : Step w W := by rw [hW]; exact Step.of
  have HSP : Hid (Blk W w.heap.size 88 [.int .i64 id, .slice Af fs.length cf]) := by rw [hW]; exact (Blk.new w [.int .i64 id, .slice Af fs.length cf] 88).alloc _
  have HSB : Hid (Blk W (w.heap.size + 1) 24 [.int .i64 s.id, .slice As s.cols.length cs, .int .i64 s.next]) := by rw [hW]; exact Blk.new_at (by simp) [.int .i64 s.id, .slice As s.cols.length cs, .int .i64 s.next] 24
  have HW := hide hW
  clear hW
  obtain ⟨R, hR⟩ : ∃ R, specB id fs s = R := ⟨_, rfl⟩
  have HR := hide hR
  rw [hR]
  clear hR
  cases hm : mayB s with
  | false =>
    have HE : Hid (specB id fs s = false) := by show _ = _; exact specB_no (.inl hm)
    rw [hm] at pm
    have PM := hide pm
    clear pm hm
    go_enter Tryd.func51, Tryd.ntmps51
    go_wp2_with (refine (PM.out _).mono ?_; rintro e w3 ⟨rfl, hs3⟩)
    go_ret
    exact ⟨by rw [← HR.out, HE.out]; rfl, Step.of⟩
  | true =>
    rw [hm] at pm
    have PM := hide pm
    have HM := hide hm
    clear pm hm
    by_cases h0 : id < 0
    · have HE : Hid (specB id fs s = false) := by show _ = _; exact specB_no (.inr (.inl h0))
      go_enter Tryd.func51, Tryd.ntmps51
      go_wp2_with (refine (PM.out _).mono ?_; rintro e w3 ⟨rfl, hs3⟩; rw [← HW.out] at hs3; obtain ⟨p0, p1⟩ := At.z2 (HSP.out.fut (w' := w3)).at0; have lp := (HSP.out.fut (w' := w3)).lt)
      go_ret
      exact ⟨by rw [← HR.out, HE.out]; rfl, Step.of⟩
    · by_cases h1 : 2147483647 < id
      · have HE : Hid (specB id fs s = false) := by show _ = _; exact specB_no (.inr (.inr (.inl h1)))
        go_enter Tryd.func51, Tryd.ntmps51
        go_wp2_with (refine (PM.out _).mono ?_; rintro e w3 ⟨rfl, hs3⟩; rw [← HW.out] at hs3; obtain ⟨p0, p1⟩ := At.z2 (HSP.out.fut (w' := w3)).at0; have lp := (HSP.out.fut (w' := w3)).lt)
        go_ret
        exact ⟨by rw [← HR.out, HE.out]; rfl, Step.of⟩
      · by_cases h4 : 4 < fs.length
        · have HE : Hid (specB id fs s = false) := by show _ = _; exact specB_no (.inr (.inr (.inr h4)))
          have h4' : (4 : Int) < (fs.length : Int) := by omega
          go_enter Tryd.func51, Tryd.ntmps51
          go_wp2_with (refine (PM.out _).mono ?_; rintro e w3 ⟨rfl, hs3⟩; rw [← HW.out] at hs3; obtain ⟨p0, p1⟩ := At.z2 (HSP.out.fut (w' := w3)).at0; have lp := (HSP.out.fut (w' := w3)).lt)
          go_ret
          exact ⟨by rw [← HR.out, HE.out]; rfl, Step.of⟩
        · have HE : Hid (specB id fs s = fldsUpto s fs fs.length) := by show _ = _; exact specB_yes HM.out (by omega) (by omega) (by omega)
          have h4' : ¬ (4 : Int) < (fs.length : Int) := by omega
          go_enter Tryd.func51, Tryd.ntmps51
          go_wp2_with (refine (PM.out _).mono ?_; rintro e w3 ⟨rfl, hs3⟩; rw [← HW.out] at hs3; obtain ⟨p0, p1⟩ := At.z2 (HSP.out.fut (w' := w3)).at0; have lp := (HSP.out.fut (w' := w3)).lt)
          clear p0 p1 lp h0 h1 h4'
          go_loopw [5, 6, 7, 8] (fun i _ _ _ wr => ∃ k : Nat, k ≤ fs.length ∧ i = .int .i64 k ∧ fldsUpto s fs k = true ∧ Step W wr) (fun i _ _ _ _ => fs.length - (intOf i).toNat)
          case atStart => exact ⟨0, Nat.zero_le _, rfl, rfl, Step.of⟩
          case round =>
            obtain ⟨k, hk, rfl, hok, hst⟩ := hrel
            have HO := hide hok; clear hok
            obtain ⟨wo, rfl⟩ : ∃ x : World, x = wr := ⟨_, rfl⟩
            have hzo := hst.size
            have hzW := SW.size
            obtain ⟨p0, p1⟩ := At.z2 (HSP.out.fut (w' := wo)).at0; have lp := (HSP.out.fut (w' := wo)).lt
            by_cases hlt : k < fs.length
            · obtain ⟨q0, q1, q2⟩ := At.z3 (HSB.out.fut (w' := wo)).at0; have lq := (HSB.out.fut (w' := wo)).lt
              obtain ⟨b, off, rfl, hb, hc⟩ := hfs.at_.elem (w' := wo) inferInstance (k := k) (by simpa using hlt)
              obtain ⟨f, hfk⟩ : ∃ f, fs[k]? = some f := ⟨_, List.getElem?_eq_getElem hlt⟩
              obtain ⟨e0, e1, e2⟩ := At.l3 (hc k f.cells (by simp [hfk]))
              have hlb : b < wo.heap.size := by omega
              have HF := hide hfk
              clear hfk hc
              have HAF := hide (Blk.new wo [.int .i64 f.source, .int .i64 f.trans, .int .i64 f.param] 78)
              have FD := rbyId_any s As cs f.source (wo.alloc (.cells #[.int .i64 f.source, .int .i64 f.trans, .int .i64 f.param] 78)) hs
              unfold Sch.val at FD
              have FD := hide FD
              have hkl : (k : Int) < (fs.length : Int) := by omega
              have hkl0 : (0 : Int) ≤ (k : Int) := by omega
              go_upto_region 8 with (go_at_call 96; refine FD.out.mono ?_; rintro e w3 ⟨rfl, hs3⟩)
              clear e0 e1 e2 hlb FD p0 p1 lp q0 q1 q2 lq
              have hz3 := hs3.size
              obtain ⟨a0, a1, a2⟩ := At.z3 (HAF.out.fut (w' := w3)).at0; have la := (HAF.out.fut (w' := w3)).lt
              obtain ⟨p0, p1⟩ := At.z2 (HSP.out.fut (w' := w3)).at0; have lp := (HSP.out.fut (w' := w3)).lt
              obtain ⟨q0, q1, q2⟩ := At.z3 (HSB.out.fut (w' := w3)).at0; have lq := (HSB.out.fut (w' := w3)).lt
              have FM := hide (fun w' => rfieldMay_any f w')
              rcases idx_cases (colId f.source) s.cols with hi | ⟨j, hi, hj⟩
              · have HB := hide (fldsUpto_bad HF.out (fld_none (s := s) (fs := fs) (k := k) hi))
                rw [hi]
                clear hi
                go_wp2_with fail
                go_ret
                exact ⟨by rw [← HR.out, HE.out, HB.out]; rfl, Step.of⟩
              · obtain ⟨bc, oc, rfl, hbc, hcc⟩ := hs.at_.elem (w' := w3) inferInstance (k := j) (by simpa using hj)
                obtain ⟨c, hcj⟩ : ∃ c, s.cols[j]? = some c := ⟨_, List.getElem?_eq_getElem hj⟩
                have HCA := hide (hcc j c.cells (by simp [hcj]))
                obtain ⟨c0, c1, c2⟩ := At.l3 HCA.out
                have hlc : bc < w3.heap.size := by omega
                have HI := hide hi; have HCJ := hide hcj
                rw [hi]
                clear hi hcj hcc
                have hj0 : ¬ (j : Int) < 0 := by omega
                have hj0' : (0 : Int) ≤ (j : Int) := by omega
                have hj1 : (j : Int) < (s.cols.length : Int) := by omega
                cases hpb : paramB f with
                | false =>
                  have HB := hide (fldsUpto_bad HF.out (fld_param (s := s) (fs := fs) (k := k) hpb))
                  rw [hpb] at FM
                  clear hpb
                  go_wp2_with (go_at_call 87; refine (FM.out _).mono ?_; rintro e w4 ⟨rfl, hs4⟩)
                  go_ret
                  exact ⟨by rw [← HR.out, HE.out, HB.out]; rfl, Step.of⟩
                | true =>
                  rw [hpb] at FM
                  have HPB := hide hpb
                  clear hpb
                  by_cases hbb : f.trans = 2 ∧ c.kind = 2
                  · have HB := hide (fldsUpto_bad HF.out (fld_bool (s := s) (fs := fs) (k := k) HI.out HCJ.out hbb.1 hbb.2))
                    obtain ⟨t2, k2⟩ := hbb
                    have t2' : (f.trans == 2) = true := by simpa using t2
                    have k2' : (c.kind == 2) = true := by simpa using k2
                    clear t2 k2
                    go_wp2_with ((go_at_call 87; refine (FM.out _).mono ?_; rintro e w4 ⟨rfl, hs4⟩; clear a0 a1 a2 la p0 p1 lp q0 q1 q2 lq c0 c1 c2; (obtain ⟨a0, a1, a2⟩ := At.z3 (HAF.out.fut (w' := w4)).at0); have la := (HAF.out.fut (w' := w4)).lt; (obtain ⟨p0, p1⟩ := At.z2 (HSP.out.fut (w' := w4)).at0); have lp := (HSP.out.fut (w' := w4)).lt; (obtain ⟨q0, q1, q2⟩ := At.z3 (HSB.out.fut (w' := w4)).at0); have lq := (HSB.out.fut (w' := w4)).lt; (obtain ⟨c0, c1, c2⟩ := At.l3 (HCA.out.below (fut w3 w4) (by omega))); have hz4_ := hs4.size; have hlc4 : bc < w4.heap.size := by omega))
                    go_ret
                    exact ⟨by rw [← HR.out, HE.out, HB.out]; rfl, Step.of⟩
                  · have HFB := hide (fld_else (s := s) (fs := fs) (k := k) HI.out HCJ.out HPB.out hbb)
                    have hbb' : (f.trans == 2) = false ∨ (f.trans == 2) = true ∧ (c.kind == 2) = false := by
                      by_cases h1 : f.trans = 2
                      · exact .inr ⟨by simpa using h1, by simp; exact fun h => hbb ⟨h1, h⟩⟩
                      · exact .inl (by simpa using h1)
                    clear hbb
                    rcases hbb' with t2 | ⟨t2, k2⟩
                    all_goals
                      go_wp2_with ((go_at_call 87; refine (FM.out _).mono ?_; rintro e w4 ⟨rfl, hs4⟩; clear a0 a1 a2 la p0 p1 lp q0 q1 q2 lq c0 c1 c2; (obtain ⟨a0, a1, a2⟩ := At.z3 (HAF.out.fut (w' := w4)).at0); have la := (HAF.out.fut (w' := w4)).lt; (obtain ⟨p0, p1⟩ := At.z2 (HSP.out.fut (w' := w4)).at0); have lp := (HSP.out.fut (w' := w4)).lt; (obtain ⟨q0, q1, q2⟩ := At.z3 (HSB.out.fut (w' := w4)).at0); have lq := (HSB.out.fut (w' := w4)).lt; (obtain ⟨c0, c1, c2⟩ := At.l3 (HCA.out.below (fut w3 w4) (by omega))); have hz4_ := hs4.size; have hlc4 : bc < w4.heap.size := by omega))
                      clear c0 c1 c2 hlc hlc4 a0 a1 a2 la p0 p1 lp q0 q1 q2 lq
                      go_loopw [8] (fun jj wr => ∃ m : Nat, m ≤ k ∧ jj = .int .i64 m ∧ Hid (preF fs f m = false) ∧ Step w4 wr) (fun jj _ => k - (intOf jj).toNat)
                      case atStart => exact ⟨0, Nat.zero_le _, rfl, (by show _ = _; rfl), Step.of⟩
                      case round =>
                        obtain ⟨m, hm, rfl, HM, hst4⟩ := hrel
                        obtain ⟨w5, rfl⟩ : ∃ x : World, x = wr := ⟨_, rfl⟩
                        have hz5 := hst4.size
                        obtain ⟨a0, a1, a2⟩ := At.z3 (HAF.out.fut (w' := w5)).at0; have la := (HAF.out.fut (w' := w5)).lt
                        obtain ⟨p0, p1⟩ := At.z2 (HSP.out.fut (w' := w5)).at0; have lp := (HSP.out.fut (w' := w5)).lt
                        obtain ⟨q0, q1, q2⟩ := At.z3 (HSB.out.fut (w' := w5)).at0; have lq := (HSB.out.fut (w' := w5)).lt
                        by_cases hmk : m < k
                        · obtain ⟨b2, off2, hA2, hb2, hc2⟩ := hfs.at_.elem (w' := w5) inferInstance (k := m) (by simp; omega)
                          obtain ⟨rfl, rfl⟩ : b = b2 ∧ off = off2 := by simpa using hA2
                          obtain ⟨o, hom⟩ : ∃ o, fs[m]? = some o := ⟨_, List.getElem?_eq_getElem (by omega)⟩
                          obtain ⟨e0, e1, e2⟩ := At.l3 (hc2 m o.cells (by simp [hom]))
                          have hlb : b < w5.heap.size := by omega
                          have hm0 : (0 : Int) ≤ (m : Int) := by omega
                          have hm1 : (m : Int) < (fs.length : Int) := by omega
                          have hmk' : (m : Int) < (k : Int) := by omega
                          have HOM := hide hom
                          have HSO : Hid (sameF f o = (o.source == f.source && o.trans == f.trans)) := hide rfl
                          clear hc2 hom hA2
                          have HYES : Hid (sameF f o = true → fldsUpto s fs fs.length = false) := fun h => fldsUpto_bad HF.out (HFB.out.trans (by
                            have : (fs.take k).any (sameF f) = true := List.any_eq_true.2 ⟨o, List.mem_iff_getElem?.2 ⟨m, by rw [List.getElem?_take, if_pos hmk]; exact HOM.out⟩, h⟩
                            rw [this]; rfl))
                          have HNO : Hid (sameF f o = false → preF fs f (m + 1) = false) := fun h => by
                            rw [preF, List.take_add_one, HOM.out, List.any_append, show (fs.take m).any (sameF f) = false from HM.out, Bool.false_or]
                            simpa using h
                          cases g1 : (o.source == f.source)
                          · have HN2 := hide (HNO.out (by rw [HSO.out, g1]; rfl))
                            go_upto_region 13 with (fail)
                            go_quiet (fail)
                            go_wp2_with fail
                            go_roundw
                            case rel => exact ⟨m + 1, by omega, by go_num, HN2, Step.of⟩
                            case measure => simp [intOf]; omega
                          · cases g2 : (o.trans == f.trans)
                            · have HN2 := hide (HNO.out (by rw [HSO.out, g1, g2]; rfl))
                              go_upto_region 13 with (fail)
                              go_quiet (fail)
                              go_wp2_with fail
                              go_roundw
                              case rel => exact ⟨m + 1, by omega, by go_num, HN2, Step.of⟩
                              case measure => simp [intOf]; omega
                            · have HY := hide (HYES.out (by rw [HSO.out, g1, g2]; rfl))
                              go_upto_region 13 with (fail)
                              go_quiet (fail)
                              go_wp2_with fail
                              go_ret
                              exact ⟨by rw [← HR.out, HE.out, HY.out]; rfl, Step.of⟩
                        · obtain rfl : m = k := by omega
                          have HB := hide (fldsUpto_succ HO.out HF.out (HFB.out.trans (by rw [show (fs.take m).any (sameF f) = false from HM.out]; rfl)))
                          go_wp2_with fail
                          go_roundw
                          case rel => exact ⟨m + 1, by omega, by go_num, HB.out, Step.of⟩
                          case measure => simp [intOf]; omega
            · obtain rfl : k = fs.length := by omega
              go_wp2_with fail
              go_ret
              exact ⟨by rw [← HR.out, HE.out, HO.out]; rfl, Step.of⟩
end Go.Proofs.YtfojdjmeefglcaaDoor
