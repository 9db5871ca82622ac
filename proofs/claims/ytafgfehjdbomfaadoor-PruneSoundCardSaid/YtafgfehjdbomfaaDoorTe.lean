/-
  spec.May: may a spec be, of a schema.
-/
import Derived.Test.YtafgfehjdbomfaaDoorFd
import Derived.Test.YtafgfehjdbomfaaDoorV
import Derived.Test.YtafgfehjdbomfaaDoorPs
import Derived.Test.YtafgfehjdbomfaaDoorA
import Derived.Deep.RegionHeld3
import Derived.Deep.RegionLaw
import Derived.Deep.Cut
import Derived.Deep.CutBlock
namespace Go.Proofs.YtafgfehjdbomfaaDoor
open Go.RowKit

/-- A spec's fields, statistics: where they lie. -/
structure FsIn (w : World) (fs : List Fld) (A : Option Addr) (cap : Nat) : Prop where
  hcap : fs.length ≤ cap
  hcapm : cap ≤ 9223372036854775807
  len : fs.length ≤ 4611686018427387904
  at_ : SlAt w w.heap.size 3 A (fs.map Fld.cells)
theorem FsIn.fut {w w' : World} {fs : List Fld} {A : Option Addr} {cap : Nat} (h : FsIn w fs A cap) [k : Fut w w'] : FsIn w' fs A cap := ⟨h.hcap, h.hcapm, h.len, h.at_.fut⟩

theorem pparam_any (t p : Int) (w : World) : Calls Tryd.prog 95 #[.int .i64 t, .int .i64 p] w fun e w' => e = .returned (.bool (paramB ⟨0, t, p⟩)) ∧ w = w' := by
  by_cases h0 : t = 0
  · subst h0
    go_enter Tryd.func95, Tryd.ntmps95
    go_wp2_with fail
    go_ret
    exact ⟨rfl, rfl⟩
  · by_cases h12 : t = 1 ∨ t = 2
    · have HP : Hid (paramB ⟨0, t, p⟩ = (decide (1 ≤ p) && decide (p ≤ 1024))) := by show _ = _; simp only [paramB]; rw [if_neg h0, if_pos h12]
      rw [HP.out]
      clear HP
      by_cases h1 : 1 ≤ p
      · rcases h12 with rfl | rfl
        all_goals
          clear h0
          go_enter Tryd.func95, Tryd.ntmps95
          go_wp2_with fail
          go_ret
          exact ⟨ret_bool (by simp [h1]), rfl⟩
      · rcases h12 with rfl | rfl
        all_goals
          clear h0
          go_enter Tryd.func95, Tryd.ntmps95
          go_wp2_with fail
          go_ret
          exact ⟨ret_bool (by simp; omega), rfl⟩
    · have HP : Hid (paramB ⟨0, t, p⟩ = false) := by show _ = _; simp only [paramB]; rw [if_neg h0, if_neg h12]
      rw [HP.out]
      clear HP
      have e0 : (t == 0) = false := by simpa using h0
      have e1 : (t == 1) = false := by simp; omega
      have e2 : (t == 2) = false := by simp; omega
      clear h0 h12
      go_enter Tryd.func95, Tryd.ntmps95
      go_wp2_with fail
      go_ret
      exact ⟨rfl, rfl⟩

theorem pfind1_any {w0 : World} (gi : Nat) (id : Int) (c : Col) (w : World) (hr : Blk w0 gi 3 [.int .i64 id]) [hf : Fut w0 w] :
    Calls Tryd.prog 107 #[c.val, .pointer (some ⟨gi, 0, none⟩)] w fun e w' => e = .returned (.bool (colId id c)) ∧ Step w w' := by
  have hR := (hr.fut (w' := w))
  have lr := hR.lt
  have r0 := At.z1 hR.at0
  clear hr hR
  unfold Col.val
  go_enter Tryd.func107, Tryd.ntmps107
  go_wp2_with fail
  go_ret
  exact ⟨rfl, Step.of⟩
set_option maxHeartbeats 4000000 in
theorem pfindId_any {w0 w1 : World} (gs : Nat) (s : Sch) (As : Option Addr) (cs : Nat) (id : Int) (w : World) (hbs : Blk w0 gs 27 [.int .i64 s.id, .slice As s.cols.length cs, .int .i64 s.next]) (hs : SchIn w1 s As cs) [f0 : Fut w0 w] [f1 : Fut w1 w] :
    Calls Tryd.prog 94 #[.pointer (some ⟨gs, 0, none⟩), .int .i64 id] w fun e w' => e = .returned (.int .i64 (idx (colId id) s.cols)) ∧ Step w w' := by
  have hl := hs.len
  have HB := hide (Blk.new w [.int .i64 id] 3)
  have lq := (hbs.fut (w' := w)).lt
  obtain ⟨q0, q1, q2⟩ := At.z3 (hbs.fut (w' := w)).at0
  have IX := hide (indexFuncCol_any 107 #[.pointer (some ⟨w.heap.size, 0, none⟩)] (colId id) As cs s.cols (w.alloc (.cells #[.int .i64 id] 3)) (by omega) hs.at_.fut (fun args w1 => by kernel_rfl)
    (fun c _ w' hb => by
      have : Fut (w.alloc (.cells #[.int .i64 id] 3)) w' := ⟨hb⟩
      exact (pfind1_any w.heap.size id c w' HB.out).mono fun e w2 h => ⟨h.1, h.2.below.mono hb.size⟩))
  clear hbs HB
  go_enter Tryd.func94, Tryd.ntmps94
  go_wp2_with (refine IX.out.mono ?_; rintro e w3 ⟨rfl, hb3⟩; have hs3 : Step (w.alloc (.cells #[.int .i64 id] 3)) w3 := ⟨hb3⟩)
  go_ret
  exact ⟨rfl, Step.of⟩
theorem pmay1_any {w0 : World} (gf : Nat) (f c : Fld) (w : World) (hr : Blk w0 gf 98 [.int .i64 f.source, .int .i64 f.trans, .int .i64 f.param]) [hf : Fut w0 w] :
    Calls Tryd.prog 97 #[.agg #[.int .i64 c.source, .int .i64 c.trans, .int .i64 c.param], .pointer (some ⟨gf, 0, none⟩)] w fun e w' => e = .returned (.bool (sameF f c)) ∧ Step w w' := by
  have hR := (hr.fut (w' := w))
  have lr := hR.lt
  obtain ⟨r0, r1, r2⟩ := At.z3 hR.at0
  clear hr hR
  have HO : Hid (sameF f c = (c.source == f.source && c.trans == f.trans)) := hide rfl
  rw [HO.out]
  clear HO
  cases e1 : (c.source == f.source)
  all_goals
    go_enter Tryd.func97, Tryd.ntmps97
    go_wp2_with fail
    go_ret
    exact ⟨ret_bool (by simp), Step.of⟩

theorem fld_none {s : Sch} {fs : List Fld} {k : Nat} {f : Fld} (h : idx (colId f.source) s.cols = -1) : fldB s fs k f = false := by rw [fldB, h]; rfl
theorem fld_param {s : Sch} {fs : List Fld} {k : Nat} {f : Fld} (h : paramB f = false) : fldB s fs k f = false := by rw [fldB, h]; simp
theorem fld_bool {s : Sch} {fs : List Fld} {k j : Nat} {f : Fld} {c : Col} (hi : idx (colId f.source) s.cols = (j : Int)) (hc : s.cols[j]? = some c) (ht : f.trans = 2) (hk : c.kind = 2) : fldB s fs k f = false := by
  obtain ⟨e, h⟩ := idx_yes (p := colId f.source) (l := s.cols) (by omega)
  have e2 : s.cols.findIdx (colId f.source) = j := by omega
  rw [fldB, e2, List.getD_eq_getElem?_getD, hc]
  simp [ht, hk]
theorem fld_else {s : Sch} {fs : List Fld} {k j : Nat} {f : Fld} {c : Col} (hi : idx (colId f.source) s.cols = (j : Int)) (hc : s.cols[j]? = some c) (hp : paramB f = true) (hn : ¬ (f.trans = 2 ∧ c.kind = 2)) : fldB s fs k f = !(fs.take k).any (sameF f) := by
  obtain ⟨e, h⟩ := idx_yes (p := colId f.source) (l := s.cols) (by omega)
  have e2 : s.cols.findIdx (colId f.source) = j := by omega
  rw [fldB, e2, List.getD_eq_getElem?_getD, hc, hp]
  have : (f.trans == 2 && (Option.getD (some c) (⟨0, .empty, 0⟩ : Col)).kind == 2) = false := by
    cases h1 : (f.trans == 2 && (Option.getD (some c) (⟨0, .empty, 0⟩ : Col)).kind == 2) with
    | false => rfl
    | true => simp at h1; exact absurd h1 hn
  rw [this]
  have : decide (0 ≤ idx (colId f.source) s.cols) = true := by simp; omega
  rw [this]
  simp
theorem specB_no {id : Int} {fs : List Fld} {s : Sch} (h : mayB s = false ∨ id < 0 ∨ 2147483647 < id ∨ 4 < fs.length) : specB id fs s = false := by
  unfold specB
  rcases h with h | h | h | h
  · simp [h]
  · have : decide (0 ≤ id) = false := by simp; omega
    simp [this]
  · have : decide (id ≤ 2147483647) = false := by simp; omega
    simp [this]
  · have : decide (fs.length ≤ 4) = false := by simp; omega
    simp [this]
theorem specB_yes {id : Int} {fs : List Fld} {s : Sch} (h : mayB s = true) (h1 : 0 ≤ id) (h2 : id ≤ 2147483647) (h3 : fs.length ≤ 4) : specB id fs s = fldsUpto s fs fs.length := by
  unfold specB
  simp [h, h1, h2, h3]

set_option maxRecDepth 100000 in
set_option maxHeartbeats 8000000 in
theorem pspec_any {w0 w1 : World} (id : Int) (fs : List Fld) (Af : Option Addr) (cf : Nat) (s : Sch) (As : Option Addr) (cs : Nat) (w : World) (hfs : FsIn w0 fs Af cf) (hs : SchIn w1 s As cs) [f0 : Fut w0 w] [f1 : Fut w1 w] :
    Calls Tryd.prog 63 #[.agg #[.int .i64 id, .slice Af fs.length cf], s.val As cs] w fun e w' => e = .returned (.bool (specB id fs s)) ∧ Step w w' := by
  have z0 := f0.below.size; have z1 := f1.below.size
  have hcap := hfs.hcap; have hcapm := hfs.hcapm; have hlf := hfs.len; have hls := hs.len
  have pm := fun w' [Fut w1 w'] => pmay s As cs w' hs
  unfold Sch.val at pm ⊢
  obtain ⟨W, hW⟩ : ∃ W, W = (w.alloc (.cells #[.int .i64 id, .slice Af fs.length cf] 65)).alloc (.cells #[.int .i64 s.id, .slice As s.cols.length cs, .int .i64 s.next] 27) := ⟨_, rfl⟩
  have SW : Step w W := by rw [hW]; exact Step.of
  have HSP : Hid (Blk W w.heap.size 65 [.int .i64 id, .slice Af fs.length cf]) := by rw [hW]; exact (Blk.new w [.int .i64 id, .slice Af fs.length cf] 65).alloc _
  have HSB : Hid (Blk W (w.heap.size + 1) 27 [.int .i64 s.id, .slice As s.cols.length cs, .int .i64 s.next]) := by rw [hW]; exact Blk.new_at (by simp) [.int .i64 s.id, .slice As s.cols.length cs, .int .i64 s.next] 27
  have HW := hide hW
  clear hW
  obtain ⟨R, hR⟩ : ∃ R, specB id fs s = R := ⟨_, rfl⟩
  have HR := hide hR
  rw [hR]
  clear hR
  cases hm : mayB s with
  | false =>
    have HE : Hid (specB id fs s = false) := by show _ = _; exact specB_no (.inl hm)
    rw [hm] at pm
    have PM := hide pm
    clear pm hm
    go_enter Tryd.func63, Tryd.ntmps63
    go_wp2_with (refine (PM.out _).mono ?_; rintro e w3 ⟨rfl, hs3⟩)
    go_ret
    exact ⟨by rw [← HR.out, HE.out]; rfl, Step.of⟩
  | true =>
    rw [hm] at pm
    have PM := hide pm
    have HM := hide hm
    clear pm hm
    by_cases h0 : id < 0
    · have HE : Hid (specB id fs s = false) := by show _ = _; exact specB_no (.inr (.inl h0))
      go_enter Tryd.func63, Tryd.ntmps63
      go_wp2_with (refine (PM.out _).mono ?_; rintro e w3 ⟨rfl, hs3⟩; rw [← HW.out] at hs3; obtain ⟨p0, p1⟩ := At.z2 (HSP.out.fut (w' := w3)).at0; have lp := (HSP.out.fut (w' := w3)).lt)
      go_ret
      exact ⟨by rw [← HR.out, HE.out]; rfl, Step.of⟩
    · by_cases h1 : 2147483647 < id
      · have HE : Hid (specB id fs s = false) := by show _ = _; exact specB_no (.inr (.inr (.inl h1)))
        go_enter Tryd.func63, Tryd.ntmps63
        go_wp2_with (refine (PM.out _).mono ?_; rintro e w3 ⟨rfl, hs3⟩; rw [← HW.out] at hs3; obtain ⟨p0, p1⟩ := At.z2 (HSP.out.fut (w' := w3)).at0; have lp := (HSP.out.fut (w' := w3)).lt)
        go_ret
        exact ⟨by rw [← HR.out, HE.out]; rfl, Step.of⟩
      · by_cases h4 : 4 < fs.length
        · have HE : Hid (specB id fs s = false) := by show _ = _; exact specB_no (.inr (.inr (.inr h4)))
          have h4' : (4 : Int) < (fs.length : Int) := by omega
          go_enter Tryd.func63, Tryd.ntmps63
          go_wp2_with (refine (PM.out _).mono ?_; rintro e w3 ⟨rfl, hs3⟩; rw [← HW.out] at hs3; obtain ⟨p0, p1⟩ := At.z2 (HSP.out.fut (w' := w3)).at0; have lp := (HSP.out.fut (w' := w3)).lt)
          go_ret
          exact ⟨by rw [← HR.out, HE.out]; rfl, Step.of⟩
        · have HE : Hid (specB id fs s = fldsUpto s fs fs.length) := by show _ = _; exact specB_yes HM.out (by omega) (by omega) (by omega)
          have h4' : ¬ (4 : Int) < (fs.length : Int) := by omega
          go_enter Tryd.func63, Tryd.ntmps63
          go_wp2_with (refine (PM.out _).mono ?_; rintro e w3 ⟨rfl, hs3⟩; rw [← HW.out] at hs3; obtain ⟨p0, p1⟩ := At.z2 (HSP.out.fut (w' := w3)).at0; have lp := (HSP.out.fut (w' := w3)).lt)
          clear p0 p1 lp h0 h1 h4'
          go_loopw [5, 6, 7, 30] (fun _ _ _ i wr => ∃ k : Nat, k ≤ fs.length ∧ i = .int .i64 k ∧ fldsUpto s fs k = true ∧ Step W wr) (fun _ _ _ i _ => fs.length - (intOf i).toNat)
          case atStart => exact ⟨0, Nat.zero_le _, rfl, rfl, Step.of⟩
          case round =>
            obtain ⟨k, hk, rfl, hok, hst⟩ := hrel
            have HO := hide hok; clear hok
            obtain ⟨wo, rfl⟩ : ∃ x : World, x = wr := ⟨_, rfl⟩
            have hzo := hst.size
            have hzW := SW.size
            by_cases hlt : k < fs.length
            · obtain ⟨b, off, rfl, hb, hc⟩ := hfs.at_.elem (w' := wo) inferInstance (k := k) (by simpa using hlt)
              obtain ⟨f, hfk⟩ : ∃ f, fs[k]? = some f := ⟨_, List.getElem?_eq_getElem hlt⟩
              obtain ⟨e0, e1, e2⟩ := At.l3 (hc k f.cells (by simp [hfk]))
              have hlb : b < wo.heap.size := by omega
              have HF := hide hfk
              clear hfk hc
              have HAF := hide (Blk.new wo [.int .i64 f.source, .int .i64 f.trans, .int .i64 f.param] 98)
              have FD := hide (pfindId_any (w0 := W) (w.heap.size + 1) s As cs f.source (wo.alloc (.cells #[.int .i64 f.source, .int .i64 f.trans, .int .i64 f.param] 98)) HSB.out hs)
              have hkl : (k : Int) < (fs.length : Int) := by omega
              go_upto_region 7 with (go_at_call 94; refine FD.out.mono ?_; rintro e w3 ⟨rfl, hs3⟩)
              clear e0 e1 e2 hlb FD
              have hz3 := hs3.size
              obtain ⟨a0, a1, a2⟩ := At.z3 (HAF.out.fut (w' := w3)).at0; have la := (HAF.out.fut (w' := w3)).lt
              obtain ⟨p0, p1⟩ := At.z2 (HSP.out.fut (w' := w3)).at0; have lp := (HSP.out.fut (w' := w3)).lt
              obtain ⟨q0, q1, q2⟩ := At.z3 (HSB.out.fut (w' := w3)).at0; have lq := (HSB.out.fut (w' := w3)).lt
              have PP := hide (fun w' => pparam_any f.trans f.param w')
              have HPP : Hid (paramB ⟨0, f.trans, f.param⟩ = paramB f) := hide rfl
              rw [HPP.out] at PP
              rcases idx_cases (colId f.source) s.cols with hi | ⟨j, hi, hj⟩
              · have HB := hide (fldsUpto_bad HF.out (fld_none (s := s) (fs := fs) (k := k) hi))
                rw [hi]
                clear hi
                go_wp2_with fail
                go_ret
                exact ⟨by rw [← HR.out, HE.out, HB.out]; rfl, Step.of⟩
              · obtain ⟨bc, oc, rfl, hbc, hcc⟩ := hs.at_.elem (w' := w3) inferInstance (k := j) (by simpa using hj)
                obtain ⟨c, hcj⟩ : ∃ c, s.cols[j]? = some c := ⟨_, List.getElem?_eq_getElem hj⟩
                obtain ⟨c0, c1, c2⟩ := At.l3 (hcc j c.cells (by simp [hcj]))
                have hlc : bc < w3.heap.size := by omega
                have HI := hide hi; have HCJ := hide hcj
                rw [hi]
                clear hi hcj hcc
                have hj0 : ¬ (j : Int) < 0 := by omega
                have hj0' : (0 : Int) ≤ (j : Int) := by omega
                have hj1 : (j : Int) < (s.cols.length : Int) := by omega
                cases hpb : paramB f with
                | false =>
                  have HB := hide (fldsUpto_bad HF.out (fld_param (s := s) (fs := fs) (k := k) hpb))
                  rw [hpb] at PP
                  clear hpb
                  go_wp2_with (go_at_call 95; refine (PP.out _).mono ?_; rintro e w' ⟨rfl, rfl⟩)
                  go_ret
                  exact ⟨by rw [← HR.out, HE.out, HB.out]; rfl, Step.of⟩
                | true =>
                  rw [hpb] at PP
                  have HPB := hide hpb
                  clear hpb
                  by_cases hbb : f.trans = 2 ∧ c.kind = 2
                  · have HB := hide (fldsUpto_bad HF.out (fld_bool (s := s) (fs := fs) (k := k) HI.out HCJ.out hbb.1 hbb.2))
                    obtain ⟨t2, k2⟩ := hbb
                    have t2' : (f.trans == 2) = true := by simpa using t2
                    have k2' : (c.kind == 2) = true := by simpa using k2
                    clear t2 k2
                    go_wp2_with (go_at_call 95; refine (PP.out _).mono ?_; rintro e w' ⟨rfl, rfl⟩)
                    go_ret
                    exact ⟨by rw [← HR.out, HE.out, HB.out]; rfl, Step.of⟩
                  · have HFB := hide (fld_else (s := s) (fs := fs) (k := k) HI.out HCJ.out HPB.out hbb)
                    have hbb' : (f.trans == 2) = false ∨ (f.trans == 2) = true ∧ (c.kind == 2) = false := by
                      by_cases h1 : f.trans = 2
                      · exact .inr ⟨by simpa using h1, by simp; exact fun h => hbb ⟨h1, h⟩⟩
                      · exact .inl (by simpa using h1)
                    clear hbb
                    have CT := containsFuncFld_any 97 #[.pointer (some ⟨wo.heap.size, 0, none⟩)] (sameF f) (some ⟨b, off, none⟩) cf (fs.take k) w3 (by simp; omega) (by have := hfs.at_.take_ k; rw [← List.map_take] at this; exact this) (fun args w1 => by kernel_rfl)
                      (fun c _ w' => by intro hF; have fA : Fut (wo.alloc (.cells #[.int .i64 f.source, .int .i64 f.trans, .int .i64 f.param] 98)) w' := Fut.tr (b := w3) inferInstance inferInstance; exact pmay1_any wo.heap.size f c w' HAF.out)
                    rw [show (fs.take k).length = k by simp; omega] at CT
                    have hkc : (k : Int) ≤ (cf : Int) := by omega
                    have hk0 : (0 : Int) ≤ (k : Int) := by omega
                    cases hq : (fs.take k).any (sameF f) with
                    | true =>
                      have HB := hide (fldsUpto_bad HF.out (HFB.out.trans (by rw [hq]; rfl)))
                      rw [hq] at CT
                      have CTH := hide CT
                      clear CT hq
                      rcases hbb' with t2 | ⟨t2, k2⟩
                      all_goals
                        go_wp2_with (first | (go_at_call 95; refine (PP.out _).mono ?_; rintro e w' ⟨rfl, rfl⟩) | (go_at_call 96; go_loud (with_reducible refine CTH.out.mono ?_); rintro e w4 ⟨rfl, hs4⟩))
                        go_ret
                        exact ⟨by rw [← HR.out, HE.out, HB.out]; rfl, Step.of⟩
                    | false =>
                      have HB := hide (fldsUpto_succ HO.out HF.out (HFB.out.trans (by rw [hq]; rfl)))
                      rw [hq] at CT
                      have CTH := hide CT
                      clear CT hq
                      rcases hbb' with t2 | ⟨t2, k2⟩
                      all_goals
                        go_wp2_with (first | (go_at_call 95; refine (PP.out _).mono ?_; rintro e w' ⟨rfl, rfl⟩) | (go_at_call 96; go_loud (with_reducible refine CTH.out.mono ?_); rintro e w4 ⟨rfl, hs4⟩))
                        go_roundw
                        case rel => exact ⟨k + 1, by omega, by go_num, HB.out, Step.of⟩
                        case measure => simp [intOf]; omega
            · obtain rfl : k = fs.length := by omega
              go_wp2_with fail
              go_ret
              exact ⟨by rw [← HR.out, HE.out, HO.out]; rfl, Step.of⟩
end Go.Proofs.YtafgfehjdbomfaaDoor
