/-
  The law ProjectNames answers true for every input: its walk.
-/
import Derived.Test.YtfojdjmeefglcaaDoorYq
import Derived.Test.YtfojdjmeefglcaaDoorRd
import Derived.Test.YtfojdjmeefglcaaDoorRe
namespace Go.Proofs.YtfojdjmeefglcaaDoor
open Go.RowKit

set_option maxRecDepth 100000 in
set_option maxHeartbeats 4000000 in
theorem plast_any {w0 : World} (d : DatA) (w : World) (h : DatIn w0 d) [f0 : Fut w0 w] : Calls Tryd.prog 42 #[.agg #[.int .i64 d.rows, .slice d.A d.cols.length d.cap, .slice d.Av d.vals.length d.cv]] w fun e w' => e = .returned (.int .i64 (lastIdT d.cols)) ∧ Step w w' := by
  have z0 := f0.below.size
  have hdl := h.clen
  obtain ⟨W, hW⟩ : ∃ W, W = w.alloc (.cells #[.int .i64 d.rows, .slice d.A d.cols.length d.cap, .slice d.Av d.vals.length d.cv] 56) := ⟨_, rfl⟩
  have SW : Step w W := by rw [hW]; exact Step.of
  have HDW : Hid (Blk W w.heap.size 56 [.int .i64 d.rows, .slice d.A d.cols.length d.cap, .slice d.Av d.vals.length d.cv]) := by rw [hW]; exact Blk.new w [.int .i64 d.rows, .slice d.A d.cols.length d.cap, .slice d.Av d.vals.length d.cv] 56
  have HW := hide hW
  have hzW := SW.size
  clear hW
  go_enter Tryd.func42, Tryd.ntmps42
  go_wp2_with fail
  rw [← HW.out]
  go_loopw [3, 4] (fun o i wr => ∃ (k : Nat) (x : Int), k ≤ d.cols.length ∧ i = .int .i64 k ∧ o = .int .i64 x ∧ Hid (x = lastIdT (d.cols.take k)) ∧ Step W wr) (fun _ i _ => d.cols.length - (intOf i).toNat)
  case atStart => exact ⟨0, 0, Nat.zero_le _, rfl, rfl, rfl, Step.of⟩
  case round =>
    obtain ⟨k, x, hk, rfl, rfl, HX, hst⟩ := hrel
    obtain ⟨wo, rfl⟩ : ∃ x : World, x = wr := ⟨_, rfl⟩
    have hzo := hst.size
    have hy := HDW.out.fut (w' := wo)
    obtain ⟨y0, y1, y2⟩ := At.z3 hy.at0; have ly := hy.lt
    clear hy
    by_cases hlt : k < d.cols.length
    · obtain ⟨b, off, hA, hb, hc⟩ := h.cat.elem (w' := wo) inferInstance (k := k) (by simpa using hlt)
      obtain ⟨c, hck⟩ : ∃ c, d.cols[k]? = some c := ⟨_, List.getElem?_eq_getElem hlt⟩
      obtain ⟨p0, p1, p2⟩ := At.l3 (hc k c.cells (by simp [hck]))
      have hlb : b < wo.heap.size := by omega
      have hkl : (k : Int) < (d.cols.length : Int) := by omega
      have hk0 : (0 : Int) ≤ (k : Int) := by omega
      have HS : Hid (lastIdT (d.cols.take (k + 1)) = max x c.id) := by show _ = _; rw [HX.out, lastIdT, List.take_add_one, hck, List.foldl_append]; rfl
      rw [hA] at y1
      rw [hA]
      clear hck hc hA
      go_wp2_with fail
      all_goals
        go_roundw
        case rel => exact ⟨k + 1, _, by omega, by go_num, rfl, by show _ = _; rw [HS.out]; try omega, Step.of⟩
        case measure => simp [intOf]; omega
    · obtain rfl : k = d.cols.length := by omega
      rw [List.take_length] at HX
      go_wp2_with fail
      go_ret
      exact ⟨ret_int HX.out, Step.of⟩

theorem SchIn.of_own' {w : World} {base : Nat} {s : Sch} {A : Option Addr} {v : Nat} (h : Own w base 49 3 (.slice A s.cols.length v) (s.cols.map Col.cells)) (hf : Fine s) : SchIn w s A v := by
  obtain ⟨A', v', hv, h1, h2, h3, _⟩ := h.slice (cols_fit _).len (by simp : (s.cols.map Col.cells).length = s.cols.length)
  injection hv with e1 e2 e3
  subst e1; subst e3
  exact ⟨h1, by simpa [maxLen] using h2, Nat.le_trans hf.1 (by decide), h3, fun c hc => Nat.le_trans (hf.2 c hc) (by decide)⟩
theorem next_fineN (s : Sch) : Fine (nextR s).1 := by
  unfold nextR
  split
  · exact may_fine (by assumption)
  · exact zero_fine
theorem addFine (s : Sch) (nm : ByteArray) (k : Int) : Fine (addR s nm k).1 := by
  unfold addR
  split
  · exact zero_fine
  split
  · exact zero_fine
  split
  · exact zero_fine
  split
  · exact zero_fine
  split
  · exact zero_fine
  exact next_fineN _
theorem renFine (s : Sch) (nm tn : ByteArray) : Fine (renameR s nm tn).1 := by
  unfold renameR
  split
  · exact zero_fine
  split
  · exact zero_fine
  split
  · exact zero_fine
  split
  · exact zero_fine
  exact next_fineN _
theorem toR_small {s : Sch} {rows : Int} {fc : List Col} {vals : List (List Val)} (hv : ∀ vs ∈ vals, ∀ v ∈ vs, v.s.size ≤ 9223372036854775807) : (toR s rows fc vals).1.length ≤ 5864062014634 ∧ ∀ vs ∈ (toR s rows fc vals).1, vs.length ≤ 3518437208780 ∧ ∀ v ∈ vs, v.s.size ≤ 9223372036854775807 := by
  by_cases h : (toR s rows fc vals).2 = 0
  · obtain ⟨⟨hm, hf, _⟩, he⟩ := toR_ok h
    have h1 := (fileB_iff.1 hf).1
    have h12 := (may_fine hm).1
    rw [he]
    refine ⟨by simp; omega, fun vs hvs => ?_⟩
    obtain ⟨i, _, rfl⟩ := List.mem_map.1 hvs
    refine ⟨by rw [toRow_len, fromT_len]; omega, fun v hv2 => ?_⟩
    obtain ⟨a, _, rfl⟩ := List.mem_map.1 hv2
    unfold toCell
    split
    · refine clean_small _ fun _ => ?_
      rw [List.getD_eq_getElem?_getD]
      cases e : (vals.getD a.toNat [])[i]? with
      | none => exact Nat.zero_le _
      | some u =>
        rw [List.getD_eq_getElem?_getD] at e
        cases e2 : vals[a.toNat]? with
        | none => rw [e2] at e; simp at e
        | some us =>
          rw [e2] at e
          exact hv us (List.mem_of_getElem? e2) u (List.mem_of_getElem? e)
    · exact Nat.zero_le _
  · rw [toR_bad h]
    exact ⟨by simp, fun vs h => by simp at h⟩
theorem dat_small {w : World} {d : DatA} (h : DatIn w d) : ∀ vs ∈ d.vss, ∀ v ∈ vs, v.s.size ≤ 9223372036854775807 := fun vs hvs v hv => by
  obtain ⟨r, hr, rfl⟩ := List.mem_map.1 hvs
  exact (h.vals.rows r hr).strs v hv

set_option maxRecDepth 100000 in
set_option maxHeartbeats 16000000 in
theorem pnames_any (d : DatA) (s : Sch) (As : Option Addr) (cs : Nat) (nm tn : ByteArray) (w : World) (hd : DatIn w d) (hs : SchIn w s As cs) :
    Calls Tryd.prog 8 #[.agg #[.int .i64 d.rows, .slice d.A d.cols.length d.cap, .slice d.Av d.vals.length d.cv], s.val As cs, .string nm, .string tn] w fun e w' => e = .returned (.bool true) ∧ Step w w' := by
  have hsl := hs.len
  obtain ⟨W, hW⟩ : ∃ W, W = (w.alloc (.cells #[.int .i64 d.rows, .slice d.A d.cols.length d.cap, .slice d.Av d.vals.length d.cv] 56)).alloc (.cells #[.int .i64 s.id, .slice As s.cols.length cs, .int .i64 s.next] 24) := ⟨_, rfl⟩
  have SW : Step w W := by rw [hW]; exact Step.of
  have HDW : Hid (Blk W w.heap.size 56 [.int .i64 d.rows, .slice d.A d.cols.length d.cap, .slice d.Av d.vals.length d.cv]) := by rw [hW]; exact (Blk.new w [.int .i64 d.rows, .slice d.A d.cols.length d.cap, .slice d.Av d.vals.length d.cv] 56).alloc _
  have HSW : Hid (Blk W (w.heap.size + 1) 24 [.int .i64 s.id, .slice As s.cols.length cs, .int .i64 s.next]) := by rw [hW]; exact Blk.new_at (by simp) [.int .i64 s.id, .slice As s.cols.length cs, .int .i64 s.next] 24
  have HW := hide hW
  have hzW := SW.size
  clear hW
  unfold Sch.val
  obtain ⟨T, hT⟩ : ∃ T, toR s d.rows d.cols d.vss = T := ⟨_, rfl⟩
  have HSM : Hid _ := hide (toR_small (s := s) (rows := d.rows) (fc := d.cols) (dat_small hd))
  have t1 := fun w' [Fut w w'] => pto_any s As cs d w' hs hd
  rw [hT] at t1 HSM
  have HT := hide hT
  have T1 := hide t1
  clear t1 hT
  by_cases he : T.2 = 0
  · have heb : (T.2 != 0) = false := by simpa using he
    obtain ⟨TL, TE⟩ := T
    have he : TE = 0 := he
    subst he
    have HLN := hide (toR_len (show (toR s d.rows d.cols d.vss).2 = 0 by rw [HT.out]))
    clear heb
    go_enter Tryd.func8, Tryd.ntmps8
    go_upto_region 6 with (first
      | (go_at_call 41; refine (awake14_any _).mono ?_; rintro e w1 ⟨rfl, hs1⟩; rw [← HW.out] at hs1; have l_ := (HSW.out.fut (w' := w1)); obtain ⟨q0, q1, q2⟩ := At.z3 l_.at0; have lq := l_.lt; have m_ := HDW.out.fut (w' := w1); obtain ⟨p0, p1, p2⟩ := At.z3 m_.at0; have lp := m_.lt; clear l_ m_)
      | (go_at_call 34; (with_reducible refine (T1.out _).mono ?_); intro e w2 hr2; obtain ⟨A2, v2, os1, ho1, rfl, hown2, hs2⟩ := hr2; have HO2 := hide hown2; have HV1 := hide ho1; clear hown2 ho1 q0 q1 q2 lq p0 p1 p2 lp)
      | (go_at_call 22; refine (num_any _ _).mono ?_; rintro e w' ⟨rfl, rfl⟩))
    have hlen : (os1.length : Int) = d.rows := by
      have h1 := HLN.out
      rw [HT.out] at h1
      have h2 := congrArg List.length HV1.out
      simp only [List.length_map] at h2
      rw [h2]; exact h1
    have HR1 := hide (HO2.out.rin (by have h2 := congrArg List.length HV1.out; simp only [List.length_map] at h2; rw [h2]; exact HSM.out.1) (by rw [HV1.out]; exact HSM.out.2))
    have hz2 := (fut W w2).size
    have l_ := (HSW.out.fut (w' := w2)); obtain ⟨q0, q1, q2⟩ := At.z3 l_.at0; have lq := l_.lt; have m_ := HDW.out.fut (w' := w2); obtain ⟨p0, p1, p2⟩ := At.z3 m_.at0; have lp := m_.lt
    clear l_ m_ HO2 T1
    have r1 := fun w' [Fut w w'] => (rrename_any s As cs nm tn w' hs).mono fun _ _ h => h.sr (renFine _ _ _)
    unfold Sch.val at r1
    obtain ⟨R, hR⟩ : ∃ R, renameR s nm tn = R := ⟨_, rfl⟩
    have HFR : Hid (Fine R.1) := by show Fine _; rw [← hR]; exact renFine _ _ _
    rw [hR] at r1
    have HR := hide hR
    have R1 := hide r1
    clear r1 hR
    go_upto_region 7 with (go_at_call 20; (with_reducible refine (R1.out _).mono ?_); intro e w3 hr3; obtain ⟨A3, v3, rfl, hi3, ho3, hs3⟩ := hr3; have HI3 := hide hi3; have HO3 := hide ho3; clear hi3 ho3)
    have HG := hide (Blk.new w3 [.int .i64 R.1.id, .slice A3 R.1.cols.length v3, .int .i64 R.1.next] 24)
    clear q0 q1 q2 lq p0 p1 p2 lp R1
    by_cases hf : R.2 = 0
    · have hfb : (R.2 == 0) = true := by simpa using hf
      have hRR : R = (R.1, 0) := by rw [← hf]
      have HTT : Hid (toR R.1 d.rows d.cols d.vss = (TL, 0)) := by
        show _ = _
        have := to_rename (t := R.1) (show renameR s nm tn = (R.1, 0) by rw [HR.out]; exact hRR) (show (toR s d.rows d.cols d.vss).2 = 0 by rw [HT.out])
        rw [this, HT.out]
      clear hf hRR
      have t2 := fun w' [Fut w3 w'] [Fut w w'] => pto_any R.1 A3 v3 d w' HI3.out hd
      rw [HTT.out] at t2
      have T2 := hide t2
      clear t2
      have g_ := HG.out
      obtain ⟨u0, u1, u2⟩ := At.z3 g_.at0; have lu := g_.lt
      have m_ := HDW.out.fut (w' := w3.alloc (.cells #[.int .i64 R.1.id, .slice A3 R.1.cols.length v3, .int .i64 R.1.next] 24)); obtain ⟨p0, p1, p2⟩ := At.z3 m_.at0; have lp : w.heap.size < w3.heap.size := by have := (fut W w3).size; have := HDW.out.lt; omega
      clear g_ m_
      go_upto_region 11 with (first | (go_at_call 22; refine (num_any _ _).mono ?_; rintro e w' ⟨rfl, rfl⟩) | (go_at_call 34; (with_reducible refine (T2.out _).mono ?_); intro e w4 hr4; obtain ⟨A4, v4, os2, ho2, rfl, hown4, hs4⟩ := hr4; have HR4 := hide (hown4.rin (by have h2 := congrArg List.length ho2; simp only [List.length_map] at h2; rw [h2]; exact HSM.out.1) (by rw [ho2]; exact HSM.out.2)); have HV2 := hide ho2; clear hown4 ho2; have SR := hide (fun w' [Fut w4 w'] [Fut w2 w'] => sameRows_any os2 os1 A4 A2 v4 v2 w' HR4.out HR1.out (by rw [HV2.out, HV1.out]))) | (go_at_call 38; (with_reducible refine (SR.out _).mono ?_); rintro e w5 ⟨rfl, hs5⟩))
      clear u0 u1 u2 lu p0 p1 p2 lp T2
      obtain ⟨X, hX⟩ : ∃ x : World, x = w5 := ⟨_, rfl⟩
      have FX : Step (w3.alloc (.cells #[.int .i64 R.1.id, .slice A3 R.1.cols.length v3, .int .i64 R.1.next] 24)) X := by rw [hX]; exact Step.of
      rw [← hX]
      clear hX
      have zX := FX.size
      simp only [hsz] at zX
      have hzX := (fut W X).size
      have l_ := (HSW.out.fut (w' := X)); obtain ⟨q0, q1, q2⟩ := At.z3 l_.at0; have lq := l_.lt
      clear l_
      have a1 := fun w' [Fut w w'] => (radd_any s As cs tn 2 w' hs).mono fun _ _ h => h.sr (addFine _ _ _)
      unfold Sch.val at a1
      obtain ⟨B, hB⟩ : ∃ B, addR s tn 2 = B := ⟨_, rfl⟩
      have HFB : Hid (Fine B.1) := by show Fine _; rw [← hB]; exact addFine _ _ _
      rw [hB] at a1
      have HB := hide hB
      have A1 := hide a1
      clear a1 hB
      go_upto_region 12 with (go_at_call 16; (with_reducible refine (A1.out _).mono ?_); intro e w6 hr6; obtain ⟨A6, v6, rfl, hi6, ho6, hs6⟩ := hr6; have HO6 := hide ho6; clear hi6 ho6; have g_ := HG.out.fut (w' := w6); obtain ⟨u0, u1, u2⟩ := At.z3 g_.at0; have lu := g_.lt; have fu := g_.free; have HG6 := hide g_; clear g_)
      clear q0 q1 q2 lq u0 u1 u2 lu fu A1
      have HX6 : Hid (Blk (((w6.setCell ⟨w3.heap.size, 0, none⟩ (.int .i64 B.1.id)).setCell ⟨w3.heap.size, 1, none⟩ (.slice A6 B.1.cols.length v6)).setCell ⟨w3.heap.size, 2, none⟩ (.int .i64 B.1.next)) w3.heap.size 24 [.int .i64 B.1.id, .slice A6 B.1.cols.length v6, .int .i64 B.1.next]) := ((HG6.out.set_ 0 (.int .i64 B.1.id)).set_ 1 (.slice A6 B.1.cols.length v6)).set_ 2 (.int .i64 B.1.next)
      have HO7 := hide (HO6.out.store3 HG6.out (by decide) (.int .i64 B.1.id) (.slice A6 B.1.cols.length v6) (.int .i64 B.1.next))
      have F6 : Step w3 (((w6.setCell ⟨w3.heap.size, 0, none⟩ (.int .i64 B.1.id)).setCell ⟨w3.heap.size, 1, none⟩ (.slice A6 B.1.cols.length v6)).setCell ⟨w3.heap.size, 2, none⟩ (.int .i64 B.1.next)) := Step.of
      obtain ⟨X6, hX6⟩ : ∃ x : World, x = (((w6.setCell ⟨w3.heap.size, 0, none⟩ (.int .i64 B.1.id)).setCell ⟨w3.heap.size, 1, none⟩ (.slice A6 B.1.cols.length v6)).setCell ⟨w3.heap.size, 2, none⟩ (.int .i64 B.1.next)) := ⟨_, rfl⟩
      rw [← hX6] at HX6 HO7 F6
      rw [← hX6]
      clear hX6 HO6 HG6 hs6
      have HI6 := hide (SchIn.of_own' HO7.out HFB.out)
      have z6 := F6.size
      have z7 := (fut W X6).size
      have g_ := HX6.out; obtain ⟨u0, u1, u2⟩ := At.z3 g_.at0; have lu := g_.lt
      have m_ := HDW.out.fut (w' := X6); obtain ⟨p0, p1, p2⟩ := At.z3 m_.at0; have lp := m_.lt
      clear g_ m_
      have hlnb : ((os1.length : Int) == d.rows) = true := by rw [beq_iff_eq]; exact hlen
      by_cases hg : B.2 = 0
      · have hBB : B = (B.1, 0) := by rw [← hg]
        obtain ⟨hcols, hmay⟩ := addR_iv (t := B.1) (s := s) (nm := tn) (k := 2) (by rw [HB.out]; exact hBB)
        have hm : B.1.cols.length = s.cols.length + 1 := by rw [hcols]; simp
        have HCL := hide hcols
        have hgb : (B.2 != 0) = false := by rw [hg]; rfl
        obtain ⟨b6, o6, hA6, hb6, hc6⟩ := HI6.out.at_.elem (w' := X6) inferInstance (k := s.cols.length) (by rw [List.length_map, hm]; omega)
        obtain ⟨c0, c1, c2⟩ := At.l3 (hc6 s.cols.length [.int .i64 s.next, .string tn, .int .i64 2] (by rw [hcols]; simp [Col.cells]))
        have l6 : b6 < X6.heap.size := hb6
        rw [hm, hA6] at u1
        have HM := hide hm; have HA6 := hide hA6
        have hh0 : (0 : Int) ≤ (s.cols.length : Int) := by omega
        have hh1 : (s.cols.length : Int) < (s.cols.length : Int) + 1 := by omega
        have hwr : IntKind.i64.wrap (s.cols.length : Int) = (s.cols.length : Int) := by rw [IntKind.wrap_i64]; omega
        have LS := hide (fun w' [Fut w w'] => plast_any d w' hd)
        have HTA := hide (fun h => to_add (t := B.1) (show addR s tn 2 = (B.1, 0) by rw [HB.out]; exact hBB) (show (toR s d.rows d.cols d.vss).2 = 0 by rw [HT.out]) h)
        obtain ⟨la, hla⟩ : ∃ la, lastIdT d.cols = la := ⟨_, rfl⟩
        rw [hla] at LS HTA
        have hg' := hide hg
        clear hc6 hcols hm hA6 hBB hla hg
        by_cases hle : s.next ≤ la
        · have hleb : decide (s.next ≤ la) = true := decide_eq_true hle
          refine wp_region_held_drew (S := (fun w' => Step X6 w' ∧ (∀ b o, b < X6.heap.size → w'.cell? ⟨b, o, none⟩ = X6.cell? ⟨b, o, none⟩))) (by kernel_rfl) (by (try dsimp only); (first | exact ⟨hS1, hS2⟩ | exact ⟨Step.of, (bcell (fut _ _)).1⟩)) (fun hHeld => ?_)
          refine wpAnyH_take (i := 0) (oi := ⟨some 63, _, _, _, _, _⟩) (v := ?_) rfl (by kernel_rfl) (by kernel_rfl) (by kernel_rfl) (fun _ _ _ h => h) (Or.inl ⟨by rfl, ?_⟩) (by assumption) ?_
          rotate_left
          · ((intro w hSw); (try dsimp only at hSw); go_simp; (try with_reducible rfl))
          (try simp only [Act.put, List.setIfInBounds_toArray, List.set_cons_zero, List.set_cons_succ])
          refine wpAnyH_take (i := 1) (oi := ⟨some 64, _, _, _, _, _⟩) (v := ?_) rfl (by kernel_rfl) (by kernel_rfl) (by kernel_rfl) (fun _ _ _ h => h) (Or.inl ⟨by rfl, ?_⟩) (by assumption) ?_
          rotate_left
          · ((intro w hSw); (try dsimp only at hSw); go_simp; (try with_reducible rfl))
          (try simp only [Act.put, List.setIfInBounds_toArray, List.set_cons_zero, List.set_cons_succ])
          refine wpAnyH_take (i := 2) (oi := ⟨some 65, _, _, _, _, _⟩) (v := ?_) rfl (by kernel_rfl) (by kernel_rfl) (by kernel_rfl) (fun _ _ _ h => h) (Or.inl ⟨by rfl, ?_⟩) (by assumption) ?_
          rotate_left
          · ((intro w hSw); (try dsimp only at hSw); go_simp; (try with_reducible rfl))
          (try simp only [Act.put, List.setIfInBounds_toArray, List.set_cons_zero, List.set_cons_succ])
          refine wpAnyH_take (i := 3) (oi := ⟨some 66, _, _, _, _, _⟩) (v := ?_) rfl (by kernel_rfl) (by kernel_rfl) (by kernel_rfl) (fun _ _ _ h => h) (Or.inl ⟨by rfl, ?_⟩) (by assumption) ?_
          rotate_left
          · ((intro w hSw); (try dsimp only at hSw); go_simp; (try with_reducible rfl))
          (try simp only [Act.put, List.setIfInBounds_toArray, List.set_cons_zero, List.set_cons_succ])
          refine wpAnyH_take (i := 5) (oi := ⟨some 68, _, _, _, _, _⟩) (v := ?_) rfl (by kernel_rfl) (by kernel_rfl) (by kernel_rfl) (fun _ _ _ h => h) (Or.inl ⟨by rfl, ?_⟩) (by assumption) ?_
          rotate_left
          · ((intro w hSw); (try dsimp only at hSw); go_simp; (try with_reducible rfl))
          (try simp only [Act.put, List.setIfInBounds_toArray, List.set_cons_zero, List.set_cons_succ])
          refine wpAnyH_take (i := 12) (oi := ⟨some 75, _, _, _, _, _⟩) (v := ?_) rfl (by kernel_rfl) (by kernel_rfl) (by kernel_rfl) (fun _ _ _ h => h) (Or.inl ⟨by rfl, ?_⟩) (by assumption) ?_
          rotate_left
          · ((intro w hSw); (try dsimp only at hSw); go_simp; (try with_reducible rfl))
          (try simp only [Act.put, List.setIfInBounds_toArray, List.set_cons_zero, List.set_cons_succ])
          refine wpAnyH_take (i := 4) (oi := ⟨some 67, _, _, _, _, _⟩) (v := ?_) rfl (by kernel_rfl) (by kernel_rfl) (by kernel_rfl) (fun _ _ _ h => h) (Or.inl ⟨by rfl, ?_⟩) (by assumption) ?_
          rotate_left
          · ((intro w hSw); (try dsimp only at hSw); go_simp; (try with_reducible rfl))
          (try simp only [Act.put, List.setIfInBounds_toArray, List.set_cons_zero, List.set_cons_succ])
          refine wpAnyH_take (i := 6) (oi := ⟨some 69, _, _, _, _, _⟩) (v := ?_) rfl (by kernel_rfl) (by kernel_rfl) (by kernel_rfl) (fun _ _ _ h => h) (Or.inl ⟨by rfl, ?_⟩) (by assumption) ?_
          rotate_left
          · ((intro w hSw); (try dsimp only at hSw); go_simp; (try with_reducible rfl))
          (try simp only [Act.put, List.setIfInBounds_toArray, List.set_cons_zero, List.set_cons_succ])
          refine wpAnyH_take (i := 7) (oi := ⟨some 70, _, _, _, _, _⟩) (v := ?_) rfl (by kernel_rfl) (by kernel_rfl) (by kernel_rfl) (fun _ _ _ h => h) (Or.inl ⟨by rfl, ?_⟩) (by assumption) ?_
          rotate_left
          · ((intro w hSw); (try dsimp only at hSw); go_simp; (try with_reducible rfl))
          (try simp only [Act.put, List.setIfInBounds_toArray, List.set_cons_zero, List.set_cons_succ])
          refine wpAnyH_take (i := 8) (oi := ⟨some 71, _, _, _, _, _⟩) (v := ?_) rfl (by kernel_rfl) (by kernel_rfl) (by kernel_rfl) (fun _ _ _ h => h) (Or.inl ⟨by rfl, ?_⟩) (by assumption) ?_
          rotate_left
          · ((intro w hSw); (try dsimp only at hSw); go_simp; (try with_reducible rfl))
          (try simp only [Act.put, List.setIfInBounds_toArray, List.set_cons_zero, List.set_cons_succ])
          refine wpAnyH_take (i := 9) (oi := ⟨some 72, _, _, _, _, _⟩) (v := ?_) rfl (by kernel_rfl) (by kernel_rfl) (by kernel_rfl) (fun _ _ _ h => h) (Or.inl ⟨by rfl, ?_⟩) (by assumption) ?_
          rotate_left
          · ((intro w hSw); (try dsimp only at hSw); go_simp; (try with_reducible rfl))
          (try simp only [Act.put, List.setIfInBounds_toArray, List.set_cons_zero, List.set_cons_succ])
          refine wpAnyH_take (i := 10) (oi := ⟨some 73, _, _, _, _, _⟩) (v := ?_) rfl (by kernel_rfl) (by kernel_rfl) (by kernel_rfl) (fun _ _ _ h => h) (Or.inl ⟨by rfl, ?_⟩) (by assumption) ?_
          rotate_left
          · ((intro w hSw); (try dsimp only at hSw); go_simp; (try with_reducible rfl))
          (try simp only [Act.put, List.setIfInBounds_toArray, List.set_cons_zero, List.set_cons_succ])
          refine wpAnyH_take (i := 11) (oi := ⟨some 74, _, _, _, _, _⟩) (v := ?_) rfl (by kernel_rfl) (by kernel_rfl) (by kernel_rfl) (fun _ _ _ h => h) (Or.inl ⟨by rfl, ?_⟩) (by assumption) ?_
          rotate_left
          · ((intro w hSw); (try dsimp only at hSw); go_simp; (try with_reducible rfl))
          (try simp only [Act.put, List.setIfInBounds_toArray, List.set_cons_zero, List.set_cons_succ])
          refine wpAnyH_ready (rs := [13]) (by kernel_rfl) (by simp) ?_
          refine AllReadyH.cons (o := ⟨some 76, _, _, _, _, _⟩) rfl (fun K hK => ?_) AllReadyH.nil
          obtain ⟨hS1, hS2⟩ := hHeld
          go_simp
          (go_at_call 42; (with_reducible refine (LS.out _).mono ?_); rintro e w8 ⟨rfl, hs8⟩)
          refine hK.out _ _ (by (try dsimp only); (first | exact ⟨hS1, hS2⟩ | exact ⟨Step.of, (bcell (fut _ _)).1⟩)) (fun hHeld => ?_)
          clear hK K
          (try simp only [Act.put, List.setIfInBounds_toArray, List.set_cons_zero, List.set_cons_succ])
          refine wpAnyH_take (i := 14) (oi := ⟨some 77, _, _, _, _, _⟩) (v := ?_) rfl (by kernel_rfl) (by kernel_rfl) (by kernel_rfl) (fun _ _ _ h => h) (Or.inl ⟨by rfl, ?_⟩) (by assumption) ?_
          rotate_left
          · ((intro w hSw); (try dsimp only at hSw); go_simp; (try with_reducible rfl))
          (try simp only [Act.put, List.setIfInBounds_toArray, List.set_cons_zero, List.set_cons_succ])
          refine wpAnyH_take (i := 15) (oi := ⟨some 78, _, _, _, _, _⟩) (v := ?_) rfl (by kernel_rfl) (by kernel_rfl) (by kernel_rfl) (fun _ _ _ h => h) (Or.inl ⟨by rfl, ?_⟩) (by assumption) ?_
          rotate_left
          · ((intro w hSw); (try dsimp only at hSw); go_simp; (try with_reducible rfl))
          (try simp only [Act.put, List.setIfInBounds_toArray, List.set_cons_zero, List.set_cons_succ])
          refine wpAnyH_done (by kernel_rfl) ?_ _
          clear u0 u1 u2 lu p0 p1 p2 lp
          have m_ := HDW.out.fut (w' := w8); obtain ⟨p0, p1, p2⟩ := At.z3 m_.at0; have lp := m_.lt
          go_wp2_with fail
          go_ret
          exact ⟨rfl, Step.of⟩
        · have hleb : decide (s.next ≤ la) = false := by simp; omega
          have HTB : Hid (toR B.1 d.rows d.cols d.vss = (TL.map (· ++ [Val.zero]), 0)) := by show _ = _; rw [HTA.out (by omega), HT.out]
          refine wp_region_held_drew (S := (fun w' => Step X6 w' ∧ (∀ b o, b < X6.heap.size → w'.cell? ⟨b, o, none⟩ = X6.cell? ⟨b, o, none⟩))) (by kernel_rfl) (by (try dsimp only); (first | exact ⟨hS1, hS2⟩ | exact ⟨Step.of, (bcell (fut _ _)).1⟩)) (fun hHeld => ?_)
          refine wpAnyH_take (i := 0) (oi := ⟨some 63, _, _, _, _, _⟩) (v := ?_) rfl (by kernel_rfl) (by kernel_rfl) (by kernel_rfl) (fun _ _ _ h => h) (Or.inl ⟨by rfl, ?_⟩) (by assumption) ?_
          rotate_left
          · ((intro w hSw); (try dsimp only at hSw); go_simp; (try with_reducible rfl))
          (try simp only [Act.put, List.setIfInBounds_toArray, List.set_cons_zero, List.set_cons_succ])
          refine wpAnyH_take (i := 1) (oi := ⟨some 64, _, _, _, _, _⟩) (v := ?_) rfl (by kernel_rfl) (by kernel_rfl) (by kernel_rfl) (fun _ _ _ h => h) (Or.inl ⟨by rfl, ?_⟩) (by assumption) ?_
          rotate_left
          · ((intro w hSw); (try dsimp only at hSw); go_simp; (try with_reducible rfl))
          (try simp only [Act.put, List.setIfInBounds_toArray, List.set_cons_zero, List.set_cons_succ])
          refine wpAnyH_take (i := 2) (oi := ⟨some 65, _, _, _, _, _⟩) (v := ?_) rfl (by kernel_rfl) (by kernel_rfl) (by kernel_rfl) (fun _ _ _ h => h) (Or.inl ⟨by rfl, ?_⟩) (by assumption) ?_
          rotate_left
          · ((intro w hSw); (try dsimp only at hSw); go_simp; (try with_reducible rfl))
          (try simp only [Act.put, List.setIfInBounds_toArray, List.set_cons_zero, List.set_cons_succ])
          refine wpAnyH_take (i := 3) (oi := ⟨some 66, _, _, _, _, _⟩) (v := ?_) rfl (by kernel_rfl) (by kernel_rfl) (by kernel_rfl) (fun _ _ _ h => h) (Or.inl ⟨by rfl, ?_⟩) (by assumption) ?_
          rotate_left
          · ((intro w hSw); (try dsimp only at hSw); go_simp; (try with_reducible rfl))
          (try simp only [Act.put, List.setIfInBounds_toArray, List.set_cons_zero, List.set_cons_succ])
          refine wpAnyH_take (i := 5) (oi := ⟨some 68, _, _, _, _, _⟩) (v := ?_) rfl (by kernel_rfl) (by kernel_rfl) (by kernel_rfl) (fun _ _ _ h => h) (Or.inl ⟨by rfl, ?_⟩) (by assumption) ?_
          rotate_left
          · ((intro w hSw); (try dsimp only at hSw); go_simp; (try with_reducible rfl))
          (try simp only [Act.put, List.setIfInBounds_toArray, List.set_cons_zero, List.set_cons_succ])
          refine wpAnyH_take (i := 12) (oi := ⟨some 75, _, _, _, _, _⟩) (v := ?_) rfl (by kernel_rfl) (by kernel_rfl) (by kernel_rfl) (fun _ _ _ h => h) (Or.inl ⟨by rfl, ?_⟩) (by assumption) ?_
          rotate_left
          · ((intro w hSw); (try dsimp only at hSw); go_simp; (try with_reducible rfl))
          (try simp only [Act.put, List.setIfInBounds_toArray, List.set_cons_zero, List.set_cons_succ])
          refine wpAnyH_take (i := 4) (oi := ⟨some 67, _, _, _, _, _⟩) (v := ?_) rfl (by kernel_rfl) (by kernel_rfl) (by kernel_rfl) (fun _ _ _ h => h) (Or.inl ⟨by rfl, ?_⟩) (by assumption) ?_
          rotate_left
          · ((intro w hSw); (try dsimp only at hSw); go_simp; (try with_reducible rfl))
          (try simp only [Act.put, List.setIfInBounds_toArray, List.set_cons_zero, List.set_cons_succ])
          refine wpAnyH_take (i := 6) (oi := ⟨some 69, _, _, _, _, _⟩) (v := ?_) rfl (by kernel_rfl) (by kernel_rfl) (by kernel_rfl) (fun _ _ _ h => h) (Or.inl ⟨by rfl, ?_⟩) (by assumption) ?_
          rotate_left
          · ((intro w hSw); (try dsimp only at hSw); go_simp; (try with_reducible rfl))
          (try simp only [Act.put, List.setIfInBounds_toArray, List.set_cons_zero, List.set_cons_succ])
          refine wpAnyH_take (i := 7) (oi := ⟨some 70, _, _, _, _, _⟩) (v := ?_) rfl (by kernel_rfl) (by kernel_rfl) (by kernel_rfl) (fun _ _ _ h => h) (Or.inl ⟨by rfl, ?_⟩) (by assumption) ?_
          rotate_left
          · ((intro w hSw); (try dsimp only at hSw); go_simp; (try with_reducible rfl))
          (try simp only [Act.put, List.setIfInBounds_toArray, List.set_cons_zero, List.set_cons_succ])
          refine wpAnyH_take (i := 8) (oi := ⟨some 71, _, _, _, _, _⟩) (v := ?_) rfl (by kernel_rfl) (by kernel_rfl) (by kernel_rfl) (fun _ _ _ h => h) (Or.inl ⟨by rfl, ?_⟩) (by assumption) ?_
          rotate_left
          · ((intro w hSw); (try dsimp only at hSw); go_simp; (try with_reducible rfl))
          (try simp only [Act.put, List.setIfInBounds_toArray, List.set_cons_zero, List.set_cons_succ])
          refine wpAnyH_take (i := 9) (oi := ⟨some 72, _, _, _, _, _⟩) (v := ?_) rfl (by kernel_rfl) (by kernel_rfl) (by kernel_rfl) (fun _ _ _ h => h) (Or.inl ⟨by rfl, ?_⟩) (by assumption) ?_
          rotate_left
          · ((intro w hSw); (try dsimp only at hSw); go_simp; (try with_reducible rfl))
          (try simp only [Act.put, List.setIfInBounds_toArray, List.set_cons_zero, List.set_cons_succ])
          refine wpAnyH_take (i := 10) (oi := ⟨some 73, _, _, _, _, _⟩) (v := ?_) rfl (by kernel_rfl) (by kernel_rfl) (by kernel_rfl) (fun _ _ _ h => h) (Or.inl ⟨by rfl, ?_⟩) (by assumption) ?_
          rotate_left
          · ((intro w hSw); (try dsimp only at hSw); go_simp; (try with_reducible rfl))
          (try simp only [Act.put, List.setIfInBounds_toArray, List.set_cons_zero, List.set_cons_succ])
          refine wpAnyH_take (i := 11) (oi := ⟨some 74, _, _, _, _, _⟩) (v := ?_) rfl (by kernel_rfl) (by kernel_rfl) (by kernel_rfl) (fun _ _ _ h => h) (Or.inl ⟨by rfl, ?_⟩) (by assumption) ?_
          rotate_left
          · ((intro w hSw); (try dsimp only at hSw); go_simp; (try with_reducible rfl))
          (try simp only [Act.put, List.setIfInBounds_toArray, List.set_cons_zero, List.set_cons_succ])
          refine wpAnyH_ready (rs := [13]) (by kernel_rfl) (by simp) ?_
          refine AllReadyH.cons (o := ⟨some 76, _, _, _, _, _⟩) rfl (fun K hK => ?_) AllReadyH.nil
          obtain ⟨hS1, hS2⟩ := hHeld
          go_simp
          (go_at_call 42; (with_reducible refine (LS.out _).mono ?_); rintro e w8 ⟨rfl, hs8⟩)
          refine hK.out _ _ (by (try dsimp only); (first | exact ⟨hS1, hS2⟩ | exact ⟨Step.of, (bcell (fut _ _)).1⟩)) (fun hHeld => ?_)
          clear hK K
          (try simp only [Act.put, List.setIfInBounds_toArray, List.set_cons_zero, List.set_cons_succ])
          refine wpAnyH_take (i := 14) (oi := ⟨some 77, _, _, _, _, _⟩) (v := ?_) rfl (by kernel_rfl) (by kernel_rfl) (by kernel_rfl) (fun _ _ _ h => h) (Or.inl ⟨by rfl, ?_⟩) (by assumption) ?_
          rotate_left
          · ((intro w hSw); (try dsimp only at hSw); go_simp; (try with_reducible rfl))
          (try simp only [Act.put, List.setIfInBounds_toArray, List.set_cons_zero, List.set_cons_succ])
          refine wpAnyH_take (i := 15) (oi := ⟨some 78, _, _, _, _, _⟩) (v := ?_) rfl (by kernel_rfl) (by kernel_rfl) (by kernel_rfl) (fun _ _ _ h => h) (Or.inl ⟨by rfl, ?_⟩) (by assumption) ?_
          rotate_left
          · ((intro w hSw); (try dsimp only at hSw); go_simp; (try with_reducible rfl))
          (try simp only [Act.put, List.setIfInBounds_toArray, List.set_cons_zero, List.set_cons_succ])
          refine wpAnyH_done (by kernel_rfl) ?_ _
          clear u0 u1 u2 lu p0 p1 p2 lp c0 c1 c2
          have t3 := fun w' [Fut X6 w'] [Fut w w'] => pto_any B.1 A6 v6 d w' HI6.out hd
          rw [HTB.out] at t3
          have HS3 : Hid _ := hide (toR_small (s := B.1) (rows := d.rows) (fc := d.cols) (dat_small hd))
          rw [HTB.out] at HS3
          rw [HM.out, HA6.out] at t3
          have T3 := hide t3
          clear t3
          have z8 := (fut X6 w8).size
          have g_ := HX6.out.fut (w' := w8); rw [HM.out, HA6.out] at g_; obtain ⟨u0, u1, u2⟩ := At.z3 g_.at0; have lu := g_.lt
          have m_ := HDW.out.fut (w' := w8); obtain ⟨p0, p1, p2⟩ := At.z3 m_.at0; have lp := m_.lt
          clear g_ m_
          go_upto_region 15 with (go_at_call 34; (with_reducible refine (T3.out _).mono ?_); intro e w9 hr9; obtain ⟨A9, v9, os3, ho3, rfl, hown9, hs9⟩ := hr9; have HR9 := hide (hown9.rin (by have h2 := congrArg List.length ho3; simp only [List.length_map] at h2; rw [h2]; exact Nat.le_trans (by simp) HSM.out.1) (by rw [ho3]; exact HS3.out.2)); have HV3 := hide ho3; clear hown9 ho3)
          have hl3 : os3.length = os1.length := by
            have h2 := congrArg List.length HV3.out
            have h3 := congrArg List.length HV1.out
            simp only [List.length_map] at h2 h3
            omega
          rw [hl3]
          have HL3 := hide hl3
          clear hl3 u0 u1 u2 lu p0 p1 p2 lp T3
          have hol : os1.length ≤ 5864062014634 := by have := HR1.out.hcapm; exact this
          go_wp2_with (go_at_call 22; refine (num_any _ _).mono ?_; rintro e w' ⟨rfl, rfl⟩)
          go_loopw [17, 18] (fun i _ wr => ∃ k : Nat, k ≤ os1.length ∧ i = .int .i64 k ∧ Step w9 wr) (fun i _ _ => os1.length - (intOf i).toNat)
          case atStart => exact ⟨0, Nat.zero_le _, rfl, Step.of⟩
          case round =>
            obtain ⟨k, hk, rfl, hst⟩ := hrel
            obtain ⟨wo, hwo⟩ : ∃ x : World, x = wr := ⟨_, rfl⟩
            rw [← hwo] at hst
            rw [← hwo]
            clear hwo
            have hzo := hst.size
            by_cases hlt : k < os1.length
            · obtain ⟨b1, o1, hB1, hb1', r, hrk, hri, p0⟩ := HR1.out.row (w' := wo) inferInstance hlt
              obtain ⟨b2, o2, hB2, hb2', o, hok, hoi, u0⟩ := HR9.out.row (w' := wo) inferInstance (k := k) (by rw [HL3.out]; exact hlt)
              have hov : o.vs = r.vs ++ [Val.zero] := by
                have h1 : (os3.map RowA.vs)[k]? = some o.vs := by simp [hok]
                have h2 : (os1.map RowA.vs)[k]? = some r.vs := by simp [hrk]
                have h3 : (os1.map RowA.vs) = TL := HV1.out
                have h4 : (os3.map RowA.vs) = TL.map (· ++ [Val.zero]) := HV3.out
                rw [h4, List.getElem?_map, ← h3, h2] at h1
                simpa using h1.symm
              have hoc := hoi.hcap; have hoc2 := hoi.hcap2
              have hoa := hoi.at_
              rw [hov] at u0 hoa hoc
              rw [List.length_append] at u0 hoc
              obtain ⟨b3, o3, hB3, hb3', hc3⟩ := hoa.elem (w' := wo) inferInstance (k := r.vs.length) (by simp)
              obtain ⟨v0, v1, v2', v3'⟩ := At.l4 (hc3 r.vs.length [.int .i64 0, .int .i64 0, .bool false, .string ⟨#[]⟩] (by simp; rfl))
              rw [List.map_append] at hoa
              have HOA := hide hoa.pre
              rw [hB3] at u0 HOA
              have hrm := hri.hcapm
              have hoc3 : r.vs.length + 1 ≤ o.cap := hoc
              have SVL := hide (fun w' [Fut w9 w'] [Fut w2 w'] => sameValues_any r.vs (some ⟨b3, o3, none⟩) r.A o.cap r.cap w' HOA.out hri.at_ (by omega))
              rw [hB1, hB2]
              have hkl : (k : Int) < (os1.length : Int) := by omega
              have hk0 : (0 : Int) ≤ (k : Int) := by omega
              have l1 : b1 < wo.heap.size := by have := (fut w2 wo).size; omega
              have l2 : b2 < wo.heap.size := by omega
              have l3 : b3 < wo.heap.size := by omega
              have hr0 : (0 : Int) ≤ (r.vs.length : Int) := by omega
              have hr1 : (r.vs.length : Int) < (r.vs.length : Int) + 1 := by omega
              have hr2 : (r.vs.length : Int) ≤ (o.cap : Int) := by omega
              simp only [List.length_singleton] at u0
              clear hrk hok hov hoa hc3 hB1 hB2 hB3 hoc
              have hwk : IntKind.i64.wrap ((r.vs.length : Int) + 1) = (r.vs.length : Int) + 1 := by rw [IntKind.wrap_i64]; omega
              go_upto_region 21 with (fail)
              refine wp_region_held_drew (S := (fun w' => Step wo w' ∧ (∀ b o, b < wo.heap.size → w'.cell? ⟨b, o, none⟩ = wo.cell? ⟨b, o, none⟩))) (by kernel_rfl) (by (try dsimp only); (first | exact ⟨hS1, hS2⟩ | exact ⟨Step.of, (bcell (fut _ _)).1⟩)) (fun hHeld => ?_)
              refine wpAnyH_take (i := 0) (oi := ⟨some 112, _, _, _, _, _⟩) (v := ?_) rfl (by kernel_rfl) (by kernel_rfl) (by kernel_rfl) (fun _ _ _ h => h) (Or.inl ⟨by rfl, ?_⟩) (by assumption) ?_
              rotate_left
              · ((intro w hSw); (try dsimp only at hSw); go_simp; (try with_reducible rfl))
              (try simp only [Act.put, List.setIfInBounds_toArray, List.set_cons_zero, List.set_cons_succ])
              refine wpAnyH_take (i := 1) (oi := ⟨some 113, _, _, _, _, _⟩) (v := ?_) rfl (by kernel_rfl) (by kernel_rfl) (by kernel_rfl) (fun _ _ _ h => h) (Or.inl ⟨by rfl, ?_⟩) (by assumption) ?_
              rotate_left
              · ((intro w hSw); (try dsimp only at hSw); go_simp; (try with_reducible rfl))
              (try simp only [Act.put, List.setIfInBounds_toArray, List.set_cons_zero, List.set_cons_succ])
              refine wpAnyH_take (i := 6) (oi := ⟨some 118, _, _, _, _, _⟩) (v := ?_) rfl (by kernel_rfl) (by kernel_rfl) (by kernel_rfl) (fun _ _ _ h => h) (Or.inl ⟨by rfl, ?_⟩) (by assumption) ?_
              rotate_left
              · ((intro w hSw); (try dsimp only at hSw); go_simp; (try with_reducible rfl))
              (try simp only [Act.put, List.setIfInBounds_toArray, List.set_cons_zero, List.set_cons_succ])
              refine wpAnyH_take (i := 2) (oi := ⟨some 114, _, _, _, _, _⟩) (v := ?_) rfl (by kernel_rfl) (by kernel_rfl) (by kernel_rfl) (fun _ _ _ h => h) (Or.inl ⟨by rfl, ?_⟩) (by assumption) ?_
              rotate_left
              · ((intro w hSw); (try dsimp only at hSw); go_simp; (try with_reducible rfl))
              (try simp only [Act.put, List.setIfInBounds_toArray, List.set_cons_zero, List.set_cons_succ])
              refine wpAnyH_take (i := 7) (oi := ⟨some 119, _, _, _, _, _⟩) (v := ?_) rfl (by kernel_rfl) (by kernel_rfl) (by kernel_rfl) (fun _ _ _ h => h) (Or.inl ⟨by rfl, ?_⟩) (by assumption) ?_
              rotate_left
              · ((intro w hSw); (try dsimp only at hSw); go_simp; (try with_reducible rfl))
              (try simp only [Act.put, List.setIfInBounds_toArray, List.set_cons_zero, List.set_cons_succ])
              refine wpAnyH_take (i := 3) (oi := ⟨some 115, _, _, _, _, _⟩) (v := ?_) rfl (by kernel_rfl) (by kernel_rfl) (by kernel_rfl) (fun _ _ _ h => h) (Or.inl ⟨by rfl, ?_⟩) (by assumption) ?_
              rotate_left
              · ((intro w hSw); (try dsimp only at hSw); go_simp; (try with_reducible rfl))
              (try simp only [Act.put, List.setIfInBounds_toArray, List.set_cons_zero, List.set_cons_succ])
              refine wpAnyH_take (i := 4) (oi := ⟨some 116, _, _, _, _, _⟩) (v := ?_) rfl (by kernel_rfl) (by kernel_rfl) (by kernel_rfl) (fun _ _ _ h => h) (Or.inl ⟨by rfl, ?_⟩) (by assumption) ?_
              rotate_left
              · ((intro w hSw); (try dsimp only at hSw); go_simp; (try with_reducible rfl))
              (try simp only [Act.put, List.setIfInBounds_toArray, List.set_cons_zero, List.set_cons_succ])
              refine wpAnyH_take (i := 5) (oi := ⟨some 117, _, _, _, _, _⟩) (v := ?_) rfl (by kernel_rfl) (by kernel_rfl) (by kernel_rfl) (fun _ _ _ h => h) (Or.inl ⟨by rfl, ?_⟩) (by assumption) ?_
              rotate_left
              · ((intro w hSw); (try dsimp only at hSw); go_simp; (try with_reducible rfl))
              (try simp only [Act.put, List.setIfInBounds_toArray, List.set_cons_zero, List.set_cons_succ])
              refine wpAnyH_take (i := 8) (oi := ⟨some 120, _, _, _, _, _⟩) (v := ?_) rfl (by kernel_rfl) (by kernel_rfl) (by kernel_rfl) (fun _ _ _ h => h) (Or.inl ⟨by rfl, ?_⟩) (by assumption) ?_
              rotate_left
              · ((intro w hSw); (try dsimp only at hSw); go_simp; (try with_reducible rfl))
              (try simp only [Act.put, List.setIfInBounds_toArray, List.set_cons_zero, List.set_cons_succ])
              refine wpAnyH_take (i := 9) (oi := ⟨some 121, _, _, _, _, _⟩) (v := ?_) rfl (by kernel_rfl) (by kernel_rfl) (by kernel_rfl) (fun _ _ _ h => h) (Or.inl ⟨by rfl, ?_⟩) (by assumption) ?_
              rotate_left
              · ((intro w hSw); (try dsimp only at hSw); go_simp; (try with_reducible rfl))
              (try simp only [Act.put, List.setIfInBounds_toArray, List.set_cons_zero, List.set_cons_succ])
              refine wpAnyH_take (i := 10) (oi := ⟨some 122, _, _, _, _, _⟩) (v := ?_) rfl (by kernel_rfl) (by kernel_rfl) (by kernel_rfl) (fun _ _ _ h => h) (Or.inl ⟨by rfl, ?_⟩) (by assumption) ?_
              rotate_left
              · ((intro w hSw); (try dsimp only at hSw); go_simp; (try with_reducible rfl))
              (try simp only [Act.put, List.setIfInBounds_toArray, List.set_cons_zero, List.set_cons_succ])
              refine wpAnyH_take (i := 11) (oi := ⟨some 123, _, _, _, _, _⟩) (v := ?_) rfl (by kernel_rfl) (by kernel_rfl) (by kernel_rfl) (fun _ _ _ h => h) (Or.inl ⟨by rfl, ?_⟩) (by assumption) ?_
              rotate_left
              · ((intro w hSw); (try dsimp only at hSw); go_simp; (try with_reducible rfl))
              (try simp only [Act.put, List.setIfInBounds_toArray, List.set_cons_zero, List.set_cons_succ])
              refine wpAnyH_take (i := 15) (oi := ⟨some 127, _, _, _, _, _⟩) (v := ?_) rfl (by kernel_rfl) (by kernel_rfl) (by kernel_rfl) (fun _ _ _ h => h) (Or.inl ⟨by rfl, ?_⟩) (by assumption) ?_
              rotate_left
              · ((intro w hSw); (try dsimp only at hSw); go_simp; (try with_reducible rfl))
              (try simp only [Act.put, List.setIfInBounds_toArray, List.set_cons_zero, List.set_cons_succ])
              refine wpAnyH_take (i := 17) (oi := ⟨some 129, _, _, _, _, _⟩) (v := ?_) rfl (by kernel_rfl) (by kernel_rfl) (by kernel_rfl) (fun _ _ _ h => h) (Or.inl ⟨by rfl, ?_⟩) (by assumption) ?_
              rotate_left
              · ((intro w hSw); (try dsimp only at hSw); go_simp; (try with_reducible rfl))
              (try simp only [Act.put, List.setIfInBounds_toArray, List.set_cons_zero, List.set_cons_succ])
              refine wpAnyH_take (i := 18) (oi := ⟨some 130, _, _, _, _, _⟩) (v := ?_) rfl (by kernel_rfl) (by kernel_rfl) (by kernel_rfl) (fun _ _ _ h => h) (Or.inl ⟨by rfl, ?_⟩) (by assumption) ?_
              rotate_left
              · ((intro w hSw); (try dsimp only at hSw); go_simp; (try with_reducible rfl))
              (try simp only [Act.put, List.setIfInBounds_toArray, List.set_cons_zero, List.set_cons_succ])
              refine wpAnyH_take (i := 12) (oi := ⟨some 124, _, _, _, _, _⟩) (v := ?_) rfl (by kernel_rfl) (by kernel_rfl) (by kernel_rfl) (fun _ _ _ h => h) (Or.inl ⟨by rfl, ?_⟩) (by assumption) ?_
              rotate_left
              · ((intro w hSw); (try dsimp only at hSw); go_simp; (try with_reducible rfl))
              (try simp only [Act.put, List.setIfInBounds_toArray, List.set_cons_zero, List.set_cons_succ])
              refine wpAnyH_take (i := 19) (oi := ⟨some 131, _, _, _, _, _⟩) (v := ?_) rfl (by kernel_rfl) (by kernel_rfl) (by kernel_rfl) (fun _ _ _ h => h) (Or.inl ⟨by rfl, ?_⟩) (by assumption) ?_
              rotate_left
              · ((intro w hSw); (try dsimp only at hSw); go_simp; (try with_reducible rfl))
              (try simp only [Act.put, List.setIfInBounds_toArray, List.set_cons_zero, List.set_cons_succ])
              refine wpAnyH_take (i := 13) (oi := ⟨some 125, _, _, _, _, _⟩) (v := ?_) rfl (by kernel_rfl) (by kernel_rfl) (by kernel_rfl) (fun _ _ _ h => h) (Or.inl ⟨by rfl, ?_⟩) (by assumption) ?_
              rotate_left
              · ((intro w hSw); (try dsimp only at hSw); go_simp; (try with_reducible rfl))
              (try simp only [Act.put, List.setIfInBounds_toArray, List.set_cons_zero, List.set_cons_succ])
              refine wpAnyH_take (i := 20) (oi := ⟨some 132, _, _, _, _, _⟩) (v := ?_) rfl (by kernel_rfl) (by kernel_rfl) (by kernel_rfl) (fun _ _ _ h => h) (Or.inl ⟨by rfl, ?_⟩) (by assumption) ?_
              rotate_left
              · ((intro w hSw); (try dsimp only at hSw); go_simp; (try with_reducible rfl))
              (try simp only [Act.put, List.setIfInBounds_toArray, List.set_cons_zero, List.set_cons_succ])
              refine wpAnyH_take (i := 14) (oi := ⟨some 126, _, _, _, _, _⟩) (v := ?_) rfl (by kernel_rfl) (by kernel_rfl) (by kernel_rfl) (fun _ _ _ h => h) (Or.inl ⟨by rfl, ?_⟩) (by assumption) ?_
              rotate_left
              · ((intro w hSw); (try dsimp only at hSw); go_simp; (try with_reducible rfl))
              (try simp only [Act.put, List.setIfInBounds_toArray, List.set_cons_zero, List.set_cons_succ])
              refine wpAnyH_take (i := 21) (oi := ⟨some 133, _, _, _, _, _⟩) (v := ?_) rfl (by kernel_rfl) (by kernel_rfl) (by kernel_rfl) (fun _ _ _ h => h) (Or.inl ⟨by rfl, ?_⟩) (by assumption) ?_
              rotate_left
              · ((intro w hSw); (try dsimp only at hSw); go_simp; (try with_reducible rfl))
              (try simp only [Act.put, List.setIfInBounds_toArray, List.set_cons_zero, List.set_cons_succ])
              refine wpAnyH_take (i := 16) (oi := ⟨some 128, _, _, _, _, _⟩) (v := ?_) rfl (by kernel_rfl) (by kernel_rfl) (by kernel_rfl) (fun _ _ _ h => h) (Or.inl ⟨by rfl, ?_⟩) (by assumption) ?_
              rotate_left
              · ((intro w hSw); (try dsimp only at hSw); go_simp; (try with_reducible rfl))
              (try simp only [Act.put, List.setIfInBounds_toArray, List.set_cons_zero, List.set_cons_succ])
              refine wpAnyH_ready (rs := [22]) (by kernel_rfl) (by simp) ?_
              refine AllReadyH.cons (o := ⟨some 134, _, _, _, _, _⟩) rfl (fun K hK => ?_) AllReadyH.nil
              obtain ⟨hS1, hS2⟩ := hHeld
              go_simp
              (go_at_call 43; (with_reducible refine (SVL.out _).mono ?_); rintro e w10 ⟨rfl, hs10⟩)
              refine hK.out _ _ (by (try dsimp only); (first | exact ⟨hS1, hS2⟩ | exact ⟨Step.of, (bcell (fut _ _)).1⟩)) (fun hHeld => ?_)
              clear hK K
              (try simp only [Act.put, List.setIfInBounds_toArray, List.set_cons_zero, List.set_cons_succ])
              refine wpAnyH_take (i := 23) (oi := ⟨some 135, _, _, _, _, _⟩) (v := ?_) rfl (by kernel_rfl) (by kernel_rfl) (by kernel_rfl) (fun _ _ _ h => h) (Or.inl ⟨by rfl, ?_⟩) (by assumption) ?_
              rotate_left
              · ((intro w hSw); (try dsimp only at hSw); go_simp; (try with_reducible rfl))
              (try simp only [Act.put, List.setIfInBounds_toArray, List.set_cons_zero, List.set_cons_succ])
              refine wpAnyH_take (i := 24) (oi := ⟨some 136, _, _, _, _, _⟩) (v := ?_) rfl (by kernel_rfl) (by kernel_rfl) (by kernel_rfl) (fun _ _ _ h => h) (Or.inl ⟨by rfl, ?_⟩) (by assumption) ?_
              rotate_left
              · ((intro w hSw); (try dsimp only at hSw); go_simp; (try with_reducible rfl))
              (try simp only [Act.put, List.setIfInBounds_toArray, List.set_cons_zero, List.set_cons_succ])
              refine wpAnyH_take (i := 25) (oi := ⟨some 137, _, _, _, _, _⟩) (v := ?_) rfl (by kernel_rfl) (by kernel_rfl) (by kernel_rfl) (fun _ _ _ h => h) (Or.inl ⟨by rfl, ?_⟩) (by assumption) ?_
              rotate_left
              · ((intro w hSw); (try dsimp only at hSw); go_simp; (try with_reducible rfl))
              (try simp only [Act.put, List.setIfInBounds_toArray, List.set_cons_zero, List.set_cons_succ])
              refine wpAnyH_take (i := 26) (oi := ⟨some 138, _, _, _, _, _⟩) (v := ?_) rfl (by kernel_rfl) (by kernel_rfl) (by kernel_rfl) (fun _ _ _ h => h) (Or.inl ⟨by rfl, ?_⟩) (by assumption) ?_
              rotate_left
              · ((intro w hSw); (try dsimp only at hSw); go_simp; (try with_reducible rfl))
              (try simp only [Act.put, List.setIfInBounds_toArray, List.set_cons_zero, List.set_cons_succ])
              refine wpAnyH_take (i := 27) (oi := ⟨some 139, _, _, _, _, _⟩) (v := ?_) rfl (by kernel_rfl) (by kernel_rfl) (by kernel_rfl) (fun _ _ _ h => h) (Or.inl ⟨by rfl, ?_⟩) (by assumption) ?_
              rotate_left
              · ((intro w hSw); (try dsimp only at hSw); go_simp; (try with_reducible rfl))
              (try simp only [Act.put, List.setIfInBounds_toArray, List.set_cons_zero, List.set_cons_succ])
              refine wpAnyH_take (i := 31) (oi := ⟨some 143, _, _, _, _, _⟩) (v := ?_) rfl (by kernel_rfl) (by kernel_rfl) (by kernel_rfl) (fun _ _ _ h => h) (Or.inl ⟨by rfl, ?_⟩) (by assumption) ?_
              rotate_left
              · ((intro w hSw); (try dsimp only at hSw); go_simp; (try with_reducible rfl))
              (try simp only [Act.put, List.setIfInBounds_toArray, List.set_cons_zero, List.set_cons_succ])
              refine wpAnyH_take (i := 34) (oi := ⟨some 146, _, _, _, _, _⟩) (v := ?_) rfl (by kernel_rfl) (by kernel_rfl) (by kernel_rfl) (fun _ _ _ h => h) (Or.inl ⟨by rfl, ?_⟩) (by assumption) ?_
              rotate_left
              · ((intro w hSw); (try dsimp only at hSw); go_simp; (try with_reducible rfl))
              (try simp only [Act.put, List.setIfInBounds_toArray, List.set_cons_zero, List.set_cons_succ])
              refine wpAnyH_take (i := 28) (oi := ⟨some 140, _, _, _, _, _⟩) (v := ?_) rfl (by kernel_rfl) (by kernel_rfl) (by kernel_rfl) (fun _ _ _ h => h) (Or.inl ⟨by rfl, ?_⟩) (by assumption) ?_
              rotate_left
              · ((intro w hSw); (try dsimp only at hSw); go_simp; (try with_reducible rfl))
              (try simp only [Act.put, List.setIfInBounds_toArray, List.set_cons_zero, List.set_cons_succ])
              refine wpAnyH_take (i := 29) (oi := ⟨some 141, _, _, _, _, _⟩) (v := ?_) rfl (by kernel_rfl) (by kernel_rfl) (by kernel_rfl) (fun _ _ _ h => h) (Or.inl ⟨by rfl, ?_⟩) (by assumption) ?_
              rotate_left
              · ((intro w hSw); (try dsimp only at hSw); go_simp; (try with_reducible rfl))
              (try simp only [Act.put, List.setIfInBounds_toArray, List.set_cons_zero, List.set_cons_succ])
              refine wpAnyH_take (i := 30) (oi := ⟨some 142, _, _, _, _, _⟩) (v := ?_) rfl (by kernel_rfl) (by kernel_rfl) (by kernel_rfl) (fun _ _ _ h => h) (Or.inl ⟨by rfl, ?_⟩) (by assumption) ?_
              rotate_left
              · ((intro w hSw); (try dsimp only at hSw); go_simp; (try with_reducible rfl))
              (try simp only [Act.put, List.setIfInBounds_toArray, List.set_cons_zero, List.set_cons_succ])
              refine wpAnyH_take (i := 32) (oi := ⟨some 144, _, _, _, _, _⟩) (v := ?_) rfl (by kernel_rfl) (by kernel_rfl) (by kernel_rfl) (fun _ _ _ h => h) (Or.inl ⟨by rfl, ?_⟩) (by assumption) ?_
              rotate_left
              · ((intro w hSw); (try dsimp only at hSw); go_simp; (try with_reducible rfl))
              (try simp only [Act.put, List.setIfInBounds_toArray, List.set_cons_zero, List.set_cons_succ])
              refine wpAnyH_take (i := 33) (oi := ⟨some 145, _, _, _, _, _⟩) (v := ?_) rfl (by kernel_rfl) (by kernel_rfl) (by kernel_rfl) (fun _ _ _ h => h) (Or.inl ⟨by rfl, ?_⟩) (by assumption) ?_
              rotate_left
              · ((intro w hSw); (try dsimp only at hSw); go_simp; (try with_reducible rfl))
              (try simp only [Act.put, List.setIfInBounds_toArray, List.set_cons_zero, List.set_cons_succ])
              refine wpAnyH_take (i := 35) (oi := ⟨some 147, _, _, _, _, _⟩) (v := ?_) rfl (by kernel_rfl) (by kernel_rfl) (by kernel_rfl) (fun _ _ _ h => h) (Or.inl ⟨by rfl, ?_⟩) (by assumption) ?_
              rotate_left
              · ((intro w hSw); (try dsimp only at hSw); go_simp; (try with_reducible rfl))
              (try simp only [Act.put, List.setIfInBounds_toArray, List.set_cons_zero, List.set_cons_succ])
              refine wpAnyH_take (i := 36) (oi := ⟨some 148, _, _, _, _, _⟩) (v := ?_) rfl (by kernel_rfl) (by kernel_rfl) (by kernel_rfl) (fun _ _ _ h => h) (Or.inl ⟨by rfl, ?_⟩) (by assumption) ?_
              rotate_left
              · ((intro w hSw); (try dsimp only at hSw); go_simp; (try with_reducible rfl))
              (try simp only [Act.put, List.setIfInBounds_toArray, List.set_cons_zero, List.set_cons_succ])
              refine wpAnyH_done (by kernel_rfl) ?_ _
              go_wp2_with fail
              go_roundw
              case rel => exact ⟨k + 1, by omega, by go_num, Step.of⟩
              case measure => simp [intOf]; omega
            · obtain rfl : k = os1.length := by omega
              go_wp2_with fail
              go_ret
              exact ⟨rfl, Step.of⟩
      · have hgb : (B.2 != 0) = true := by simpa using hg
        clear hg
        go_quiet (fail)
        go_wp2_with fail
        go_ret
        exact ⟨rfl, Step.of⟩
    · have hfb : (R.2 == 0) = false := by simpa using hf
      clear hf
      go_upto_region 11 with (fail)
      obtain ⟨X, hX⟩ : ∃ x : World, x = w3.alloc (.cells #[.int .i64 R.1.id, .slice A3 R.1.cols.length v3, .int .i64 R.1.next] 24) := ⟨_, rfl⟩
      have FX : Step (w3.alloc (.cells #[.int .i64 R.1.id, .slice A3 R.1.cols.length v3, .int .i64 R.1.next] 24)) X := by rw [hX]; exact Step.of
      rw [← hX]
      clear hX
      have zX := FX.size
      simp only [hsz] at zX
      have hzX := (fut W X).size
      have l_ := (HSW.out.fut (w' := X)); obtain ⟨q0, q1, q2⟩ := At.z3 l_.at0; have lq := l_.lt
      clear l_
      have a1 := fun w' [Fut w w'] => (radd_any s As cs tn 2 w' hs).mono fun _ _ h => h.sr (addFine _ _ _)
      unfold Sch.val at a1
      obtain ⟨B, hB⟩ : ∃ B, addR s tn 2 = B := ⟨_, rfl⟩
      have HFB : Hid (Fine B.1) := by show Fine _; rw [← hB]; exact addFine _ _ _
      rw [hB] at a1
      have HB := hide hB
      have A1 := hide a1
      clear a1 hB
      go_upto_region 12 with (go_at_call 16; (with_reducible refine (A1.out _).mono ?_); intro e w6 hr6; obtain ⟨A6, v6, rfl, hi6, ho6, hs6⟩ := hr6; have HO6 := hide ho6; clear hi6 ho6; have g_ := HG.out.fut (w' := w6); obtain ⟨u0, u1, u2⟩ := At.z3 g_.at0; have lu := g_.lt; have fu := g_.free; have HG6 := hide g_; clear g_)
      clear q0 q1 q2 lq u0 u1 u2 lu fu A1
      have HX6 : Hid (Blk (((w6.setCell ⟨w3.heap.size, 0, none⟩ (.int .i64 B.1.id)).setCell ⟨w3.heap.size, 1, none⟩ (.slice A6 B.1.cols.length v6)).setCell ⟨w3.heap.size, 2, none⟩ (.int .i64 B.1.next)) w3.heap.size 24 [.int .i64 B.1.id, .slice A6 B.1.cols.length v6, .int .i64 B.1.next]) := ((HG6.out.set_ 0 (.int .i64 B.1.id)).set_ 1 (.slice A6 B.1.cols.length v6)).set_ 2 (.int .i64 B.1.next)
      have HO7 := hide (HO6.out.store3 HG6.out (by decide) (.int .i64 B.1.id) (.slice A6 B.1.cols.length v6) (.int .i64 B.1.next))
      have F6 : Step w3 (((w6.setCell ⟨w3.heap.size, 0, none⟩ (.int .i64 B.1.id)).setCell ⟨w3.heap.size, 1, none⟩ (.slice A6 B.1.cols.length v6)).setCell ⟨w3.heap.size, 2, none⟩ (.int .i64 B.1.next)) := Step.of
      obtain ⟨X6, hX6⟩ : ∃ x : World, x = (((w6.setCell ⟨w3.heap.size, 0, none⟩ (.int .i64 B.1.id)).setCell ⟨w3.heap.size, 1, none⟩ (.slice A6 B.1.cols.length v6)).setCell ⟨w3.heap.size, 2, none⟩ (.int .i64 B.1.next)) := ⟨_, rfl⟩
      rw [← hX6] at HX6 HO7 F6
      rw [← hX6]
      clear hX6 HO6 HG6 hs6
      have HI6 := hide (SchIn.of_own' HO7.out HFB.out)
      have z6 := F6.size
      have z7 := (fut W X6).size
      have g_ := HX6.out; obtain ⟨u0, u1, u2⟩ := At.z3 g_.at0; have lu := g_.lt
      have m_ := HDW.out.fut (w' := X6); obtain ⟨p0, p1, p2⟩ := At.z3 m_.at0; have lp := m_.lt
      clear g_ m_
      have hlnb : ((os1.length : Int) == d.rows) = true := by rw [beq_iff_eq]; exact hlen
      by_cases hg : B.2 = 0
      · have hBB : B = (B.1, 0) := by rw [← hg]
        obtain ⟨hcols, hmay⟩ := addR_iv (t := B.1) (s := s) (nm := tn) (k := 2) (by rw [HB.out]; exact hBB)
        have hm : B.1.cols.length = s.cols.length + 1 := by rw [hcols]; simp
        have HCL := hide hcols
        have hgb : (B.2 != 0) = false := by rw [hg]; rfl
        obtain ⟨b6, o6, hA6, hb6, hc6⟩ := HI6.out.at_.elem (w' := X6) inferInstance (k := s.cols.length) (by rw [List.length_map, hm]; omega)
        obtain ⟨c0, c1, c2⟩ := At.l3 (hc6 s.cols.length [.int .i64 s.next, .string tn, .int .i64 2] (by rw [hcols]; simp [Col.cells]))
        have l6 : b6 < X6.heap.size := hb6
        rw [hm, hA6] at u1
        have HM := hide hm; have HA6 := hide hA6
        have hh0 : (0 : Int) ≤ (s.cols.length : Int) := by omega
        have hh1 : (s.cols.length : Int) < (s.cols.length : Int) + 1 := by omega
        have hwr : IntKind.i64.wrap (s.cols.length : Int) = (s.cols.length : Int) := by rw [IntKind.wrap_i64]; omega
        have LS := hide (fun w' [Fut w w'] => plast_any d w' hd)
        have HTA := hide (fun h => to_add (t := B.1) (show addR s tn 2 = (B.1, 0) by rw [HB.out]; exact hBB) (show (toR s d.rows d.cols d.vss).2 = 0 by rw [HT.out]) h)
        obtain ⟨la, hla⟩ : ∃ la, lastIdT d.cols = la := ⟨_, rfl⟩
        rw [hla] at LS HTA
        have hg' := hide hg
        clear hc6 hcols hm hA6 hBB hla hg
        by_cases hle : s.next ≤ la
        · have hleb : decide (s.next ≤ la) = true := decide_eq_true hle
          refine wp_region_held_drew (S := (fun w' => Step X6 w' ∧ (∀ b o, b < X6.heap.size → w'.cell? ⟨b, o, none⟩ = X6.cell? ⟨b, o, none⟩))) (by kernel_rfl) (by (try dsimp only); (first | exact ⟨hS1, hS2⟩ | exact ⟨Step.of, (bcell (fut _ _)).1⟩)) (fun hHeld => ?_)
          refine wpAnyH_take (i := 0) (oi := ⟨some 63, _, _, _, _, _⟩) (v := ?_) rfl (by kernel_rfl) (by kernel_rfl) (by kernel_rfl) (fun _ _ _ h => h) (Or.inl ⟨by rfl, ?_⟩) (by assumption) ?_
          rotate_left
          · ((intro w hSw); (try dsimp only at hSw); go_simp; (try with_reducible rfl))
          (try simp only [Act.put, List.setIfInBounds_toArray, List.set_cons_zero, List.set_cons_succ])
          refine wpAnyH_take (i := 1) (oi := ⟨some 64, _, _, _, _, _⟩) (v := ?_) rfl (by kernel_rfl) (by kernel_rfl) (by kernel_rfl) (fun _ _ _ h => h) (Or.inl ⟨by rfl, ?_⟩) (by assumption) ?_
          rotate_left
          · ((intro w hSw); (try dsimp only at hSw); go_simp; (try with_reducible rfl))
          (try simp only [Act.put, List.setIfInBounds_toArray, List.set_cons_zero, List.set_cons_succ])
          refine wpAnyH_take (i := 2) (oi := ⟨some 65, _, _, _, _, _⟩) (v := ?_) rfl (by kernel_rfl) (by kernel_rfl) (by kernel_rfl) (fun _ _ _ h => h) (Or.inl ⟨by rfl, ?_⟩) (by assumption) ?_
          rotate_left
          · ((intro w hSw); (try dsimp only at hSw); go_simp; (try with_reducible rfl))
          (try simp only [Act.put, List.setIfInBounds_toArray, List.set_cons_zero, List.set_cons_succ])
          refine wpAnyH_take (i := 3) (oi := ⟨some 66, _, _, _, _, _⟩) (v := ?_) rfl (by kernel_rfl) (by kernel_rfl) (by kernel_rfl) (fun _ _ _ h => h) (Or.inl ⟨by rfl, ?_⟩) (by assumption) ?_
          rotate_left
          · ((intro w hSw); (try dsimp only at hSw); go_simp; (try with_reducible rfl))
          (try simp only [Act.put, List.setIfInBounds_toArray, List.set_cons_zero, List.set_cons_succ])
          refine wpAnyH_take (i := 5) (oi := ⟨some 68, _, _, _, _, _⟩) (v := ?_) rfl (by kernel_rfl) (by kernel_rfl) (by kernel_rfl) (fun _ _ _ h => h) (Or.inl ⟨by rfl, ?_⟩) (by assumption) ?_
          rotate_left
          · ((intro w hSw); (try dsimp only at hSw); go_simp; (try with_reducible rfl))
          (try simp only [Act.put, List.setIfInBounds_toArray, List.set_cons_zero, List.set_cons_succ])
          refine wpAnyH_take (i := 12) (oi := ⟨some 75, _, _, _, _, _⟩) (v := ?_) rfl (by kernel_rfl) (by kernel_rfl) (by kernel_rfl) (fun _ _ _ h => h) (Or.inl ⟨by rfl, ?_⟩) (by assumption) ?_
          rotate_left
          · ((intro w hSw); (try dsimp only at hSw); go_simp; (try with_reducible rfl))
          (try simp only [Act.put, List.setIfInBounds_toArray, List.set_cons_zero, List.set_cons_succ])
          refine wpAnyH_take (i := 4) (oi := ⟨some 67, _, _, _, _, _⟩) (v := ?_) rfl (by kernel_rfl) (by kernel_rfl) (by kernel_rfl) (fun _ _ _ h => h) (Or.inl ⟨by rfl, ?_⟩) (by assumption) ?_
          rotate_left
          · ((intro w hSw); (try dsimp only at hSw); go_simp; (try with_reducible rfl))
          (try simp only [Act.put, List.setIfInBounds_toArray, List.set_cons_zero, List.set_cons_succ])
          refine wpAnyH_take (i := 6) (oi := ⟨some 69, _, _, _, _, _⟩) (v := ?_) rfl (by kernel_rfl) (by kernel_rfl) (by kernel_rfl) (fun _ _ _ h => h) (Or.inl ⟨by rfl, ?_⟩) (by assumption) ?_
          rotate_left
          · ((intro w hSw); (try dsimp only at hSw); go_simp; (try with_reducible rfl))
          (try simp only [Act.put, List.setIfInBounds_toArray, List.set_cons_zero, List.set_cons_succ])
          refine wpAnyH_take (i := 7) (oi := ⟨some 70, _, _, _, _, _⟩) (v := ?_) rfl (by kernel_rfl) (by kernel_rfl) (by kernel_rfl) (fun _ _ _ h => h) (Or.inl ⟨by rfl, ?_⟩) (by assumption) ?_
          rotate_left
          · ((intro w hSw); (try dsimp only at hSw); go_simp; (try with_reducible rfl))
          (try simp only [Act.put, List.setIfInBounds_toArray, List.set_cons_zero, List.set_cons_succ])
          refine wpAnyH_take (i := 8) (oi := ⟨some 71, _, _, _, _, _⟩) (v := ?_) rfl (by kernel_rfl) (by kernel_rfl) (by kernel_rfl) (fun _ _ _ h => h) (Or.inl ⟨by rfl, ?_⟩) (by assumption) ?_
          rotate_left
          · ((intro w hSw); (try dsimp only at hSw); go_simp; (try with_reducible rfl))
          (try simp only [Act.put, List.setIfInBounds_toArray, List.set_cons_zero, List.set_cons_succ])
          refine wpAnyH_take (i := 9) (oi := ⟨some 72, _, _, _, _, _⟩) (v := ?_) rfl (by kernel_rfl) (by kernel_rfl) (by kernel_rfl) (fun _ _ _ h => h) (Or.inl ⟨by rfl, ?_⟩) (by assumption) ?_
          rotate_left
          · ((intro w hSw); (try dsimp only at hSw); go_simp; (try with_reducible rfl))
          (try simp only [Act.put, List.setIfInBounds_toArray, List.set_cons_zero, List.set_cons_succ])
          refine wpAnyH_take (i := 10) (oi := ⟨some 73, _, _, _, _, _⟩) (v := ?_) rfl (by kernel_rfl) (by kernel_rfl) (by kernel_rfl) (fun _ _ _ h => h) (Or.inl ⟨by rfl, ?_⟩) (by assumption) ?_
          rotate_left
          · ((intro w hSw); (try dsimp only at hSw); go_simp; (try with_reducible rfl))
          (try simp only [Act.put, List.setIfInBounds_toArray, List.set_cons_zero, List.set_cons_succ])
          refine wpAnyH_take (i := 11) (oi := ⟨some 74, _, _, _, _, _⟩) (v := ?_) rfl (by kernel_rfl) (by kernel_rfl) (by kernel_rfl) (fun _ _ _ h => h) (Or.inl ⟨by rfl, ?_⟩) (by assumption) ?_
          rotate_left
          · ((intro w hSw); (try dsimp only at hSw); go_simp; (try with_reducible rfl))
          (try simp only [Act.put, List.setIfInBounds_toArray, List.set_cons_zero, List.set_cons_succ])
          refine wpAnyH_ready (rs := [13]) (by kernel_rfl) (by simp) ?_
          refine AllReadyH.cons (o := ⟨some 76, _, _, _, _, _⟩) rfl (fun K hK => ?_) AllReadyH.nil
          obtain ⟨hS1, hS2⟩ := hHeld
          go_simp
          (go_at_call 42; (with_reducible refine (LS.out _).mono ?_); rintro e w8 ⟨rfl, hs8⟩)
          refine hK.out _ _ (by (try dsimp only); (first | exact ⟨hS1, hS2⟩ | exact ⟨Step.of, (bcell (fut _ _)).1⟩)) (fun hHeld => ?_)
          clear hK K
          (try simp only [Act.put, List.setIfInBounds_toArray, List.set_cons_zero, List.set_cons_succ])
          refine wpAnyH_take (i := 14) (oi := ⟨some 77, _, _, _, _, _⟩) (v := ?_) rfl (by kernel_rfl) (by kernel_rfl) (by kernel_rfl) (fun _ _ _ h => h) (Or.inl ⟨by rfl, ?_⟩) (by assumption) ?_
          rotate_left
          · ((intro w hSw); (try dsimp only at hSw); go_simp; (try with_reducible rfl))
          (try simp only [Act.put, List.setIfInBounds_toArray, List.set_cons_zero, List.set_cons_succ])
          refine wpAnyH_take (i := 15) (oi := ⟨some 78, _, _, _, _, _⟩) (v := ?_) rfl (by kernel_rfl) (by kernel_rfl) (by kernel_rfl) (fun _ _ _ h => h) (Or.inl ⟨by rfl, ?_⟩) (by assumption) ?_
          rotate_left
          · ((intro w hSw); (try dsimp only at hSw); go_simp; (try with_reducible rfl))
          (try simp only [Act.put, List.setIfInBounds_toArray, List.set_cons_zero, List.set_cons_succ])
          refine wpAnyH_done (by kernel_rfl) ?_ _
          clear u0 u1 u2 lu p0 p1 p2 lp
          have m_ := HDW.out.fut (w' := w8); obtain ⟨p0, p1, p2⟩ := At.z3 m_.at0; have lp := m_.lt
          go_wp2_with fail
          go_ret
          exact ⟨rfl, Step.of⟩
        · have hleb : decide (s.next ≤ la) = false := by simp; omega
          have HTB : Hid (toR B.1 d.rows d.cols d.vss = (TL.map (· ++ [Val.zero]), 0)) := by show _ = _; rw [HTA.out (by omega), HT.out]
          refine wp_region_held_drew (S := (fun w' => Step X6 w' ∧ (∀ b o, b < X6.heap.size → w'.cell? ⟨b, o, none⟩ = X6.cell? ⟨b, o, none⟩))) (by kernel_rfl) (by (try dsimp only); (first | exact ⟨hS1, hS2⟩ | exact ⟨Step.of, (bcell (fut _ _)).1⟩)) (fun hHeld => ?_)
          refine wpAnyH_take (i := 0) (oi := ⟨some 63, _, _, _, _, _⟩) (v := ?_) rfl (by kernel_rfl) (by kernel_rfl) (by kernel_rfl) (fun _ _ _ h => h) (Or.inl ⟨by rfl, ?_⟩) (by assumption) ?_
          rotate_left
          · ((intro w hSw); (try dsimp only at hSw); go_simp; (try with_reducible rfl))
          (try simp only [Act.put, List.setIfInBounds_toArray, List.set_cons_zero, List.set_cons_succ])
          refine wpAnyH_take (i := 1) (oi := ⟨some 64, _, _, _, _, _⟩) (v := ?_) rfl (by kernel_rfl) (by kernel_rfl) (by kernel_rfl) (fun _ _ _ h => h) (Or.inl ⟨by rfl, ?_⟩) (by assumption) ?_
          rotate_left
          · ((intro w hSw); (try dsimp only at hSw); go_simp; (try with_reducible rfl))
          (try simp only [Act.put, List.setIfInBounds_toArray, List.set_cons_zero, List.set_cons_succ])
          refine wpAnyH_take (i := 2) (oi := ⟨some 65, _, _, _, _, _⟩) (v := ?_) rfl (by kernel_rfl) (by kernel_rfl) (by kernel_rfl) (fun _ _ _ h => h) (Or.inl ⟨by rfl, ?_⟩) (by assumption) ?_
          rotate_left
          · ((intro w hSw); (try dsimp only at hSw); go_simp; (try with_reducible rfl))
          (try simp only [Act.put, List.setIfInBounds_toArray, List.set_cons_zero, List.set_cons_succ])
          refine wpAnyH_take (i := 3) (oi := ⟨some 66, _, _, _, _, _⟩) (v := ?_) rfl (by kernel_rfl) (by kernel_rfl) (by kernel_rfl) (fun _ _ _ h => h) (Or.inl ⟨by rfl, ?_⟩) (by assumption) ?_
          rotate_left
          · ((intro w hSw); (try dsimp only at hSw); go_simp; (try with_reducible rfl))
          (try simp only [Act.put, List.setIfInBounds_toArray, List.set_cons_zero, List.set_cons_succ])
          refine wpAnyH_take (i := 5) (oi := ⟨some 68, _, _, _, _, _⟩) (v := ?_) rfl (by kernel_rfl) (by kernel_rfl) (by kernel_rfl) (fun _ _ _ h => h) (Or.inl ⟨by rfl, ?_⟩) (by assumption) ?_
          rotate_left
          · ((intro w hSw); (try dsimp only at hSw); go_simp; (try with_reducible rfl))
          (try simp only [Act.put, List.setIfInBounds_toArray, List.set_cons_zero, List.set_cons_succ])
          refine wpAnyH_take (i := 12) (oi := ⟨some 75, _, _, _, _, _⟩) (v := ?_) rfl (by kernel_rfl) (by kernel_rfl) (by kernel_rfl) (fun _ _ _ h => h) (Or.inl ⟨by rfl, ?_⟩) (by assumption) ?_
          rotate_left
          · ((intro w hSw); (try dsimp only at hSw); go_simp; (try with_reducible rfl))
          (try simp only [Act.put, List.setIfInBounds_toArray, List.set_cons_zero, List.set_cons_succ])
          refine wpAnyH_take (i := 4) (oi := ⟨some 67, _, _, _, _, _⟩) (v := ?_) rfl (by kernel_rfl) (by kernel_rfl) (by kernel_rfl) (fun _ _ _ h => h) (Or.inl ⟨by rfl, ?_⟩) (by assumption) ?_
          rotate_left
          · ((intro w hSw); (try dsimp only at hSw); go_simp; (try with_reducible rfl))
          (try simp only [Act.put, List.setIfInBounds_toArray, List.set_cons_zero, List.set_cons_succ])
          refine wpAnyH_take (i := 6) (oi := ⟨some 69, _, _, _, _, _⟩) (v := ?_) rfl (by kernel_rfl) (by kernel_rfl) (by kernel_rfl) (fun _ _ _ h => h) (Or.inl ⟨by rfl, ?_⟩) (by assumption) ?_
          rotate_left
          · ((intro w hSw); (try dsimp only at hSw); go_simp; (try with_reducible rfl))
          (try simp only [Act.put, List.setIfInBounds_toArray, List.set_cons_zero, List.set_cons_succ])
          refine wpAnyH_take (i := 7) (oi := ⟨some 70, _, _, _, _, _⟩) (v := ?_) rfl (by kernel_rfl) (by kernel_rfl) (by kernel_rfl) (fun _ _ _ h => h) (Or.inl ⟨by rfl, ?_⟩) (by assumption) ?_
          rotate_left
          · ((intro w hSw); (try dsimp only at hSw); go_simp; (try with_reducible rfl))
          (try simp only [Act.put, List.setIfInBounds_toArray, List.set_cons_zero, List.set_cons_succ])
          refine wpAnyH_take (i := 8) (oi := ⟨some 71, _, _, _, _, _⟩) (v := ?_) rfl (by kernel_rfl) (by kernel_rfl) (by kernel_rfl) (fun _ _ _ h => h) (Or.inl ⟨by rfl, ?_⟩) (by assumption) ?_
          rotate_left
          · ((intro w hSw); (try dsimp only at hSw); go_simp; (try with_reducible rfl))
          (try simp only [Act.put, List.setIfInBounds_toArray, List.set_cons_zero, List.set_cons_succ])
          refine wpAnyH_take (i := 9) (oi := ⟨some 72, _, _, _, _, _⟩) (v := ?_) rfl (by kernel_rfl) (by kernel_rfl) (by kernel_rfl) (fun _ _ _ h => h) (Or.inl ⟨by rfl, ?_⟩) (by assumption) ?_
          rotate_left
          · ((intro w hSw); (try dsimp only at hSw); go_simp; (try with_reducible rfl))
          (try simp only [Act.put, List.setIfInBounds_toArray, List.set_cons_zero, List.set_cons_succ])
          refine wpAnyH_take (i := 10) (oi := ⟨some 73, _, _, _, _, _⟩) (v := ?_) rfl (by kernel_rfl) (by kernel_rfl) (by kernel_rfl) (fun _ _ _ h => h) (Or.inl ⟨by rfl, ?_⟩) (by assumption) ?_
          rotate_left
          · ((intro w hSw); (try dsimp only at hSw); go_simp; (try with_reducible rfl))
          (try simp only [Act.put, List.setIfInBounds_toArray, List.set_cons_zero, List.set_cons_succ])
          refine wpAnyH_take (i := 11) (oi := ⟨some 74, _, _, _, _, _⟩) (v := ?_) rfl (by kernel_rfl) (by kernel_rfl) (by kernel_rfl) (fun _ _ _ h => h) (Or.inl ⟨by rfl, ?_⟩) (by assumption) ?_
          rotate_left
          · ((intro w hSw); (try dsimp only at hSw); go_simp; (try with_reducible rfl))
          (try simp only [Act.put, List.setIfInBounds_toArray, List.set_cons_zero, List.set_cons_succ])
          refine wpAnyH_ready (rs := [13]) (by kernel_rfl) (by simp) ?_
          refine AllReadyH.cons (o := ⟨some 76, _, _, _, _, _⟩) rfl (fun K hK => ?_) AllReadyH.nil
          obtain ⟨hS1, hS2⟩ := hHeld
          go_simp
          (go_at_call 42; (with_reducible refine (LS.out _).mono ?_); rintro e w8 ⟨rfl, hs8⟩)
          refine hK.out _ _ (by (try dsimp only); (first | exact ⟨hS1, hS2⟩ | exact ⟨Step.of, (bcell (fut _ _)).1⟩)) (fun hHeld => ?_)
          clear hK K
          (try simp only [Act.put, List.setIfInBounds_toArray, List.set_cons_zero, List.set_cons_succ])
          refine wpAnyH_take (i := 14) (oi := ⟨some 77, _, _, _, _, _⟩) (v := ?_) rfl (by kernel_rfl) (by kernel_rfl) (by kernel_rfl) (fun _ _ _ h => h) (Or.inl ⟨by rfl, ?_⟩) (by assumption) ?_
          rotate_left
          · ((intro w hSw); (try dsimp only at hSw); go_simp; (try with_reducible rfl))
          (try simp only [Act.put, List.setIfInBounds_toArray, List.set_cons_zero, List.set_cons_succ])
          refine wpAnyH_take (i := 15) (oi := ⟨some 78, _, _, _, _, _⟩) (v := ?_) rfl (by kernel_rfl) (by kernel_rfl) (by kernel_rfl) (fun _ _ _ h => h) (Or.inl ⟨by rfl, ?_⟩) (by assumption) ?_
          rotate_left
          · ((intro w hSw); (try dsimp only at hSw); go_simp; (try with_reducible rfl))
          (try simp only [Act.put, List.setIfInBounds_toArray, List.set_cons_zero, List.set_cons_succ])
          refine wpAnyH_done (by kernel_rfl) ?_ _
          clear u0 u1 u2 lu p0 p1 p2 lp c0 c1 c2
          have t3 := fun w' [Fut X6 w'] [Fut w w'] => pto_any B.1 A6 v6 d w' HI6.out hd
          rw [HTB.out] at t3
          have HS3 : Hid _ := hide (toR_small (s := B.1) (rows := d.rows) (fc := d.cols) (dat_small hd))
          rw [HTB.out] at HS3
          rw [HM.out, HA6.out] at t3
          have T3 := hide t3
          clear t3
          have z8 := (fut X6 w8).size
          have g_ := HX6.out.fut (w' := w8); rw [HM.out, HA6.out] at g_; obtain ⟨u0, u1, u2⟩ := At.z3 g_.at0; have lu := g_.lt
          have m_ := HDW.out.fut (w' := w8); obtain ⟨p0, p1, p2⟩ := At.z3 m_.at0; have lp := m_.lt
          clear g_ m_
          go_upto_region 15 with (go_at_call 34; (with_reducible refine (T3.out _).mono ?_); intro e w9 hr9; obtain ⟨A9, v9, os3, ho3, rfl, hown9, hs9⟩ := hr9; have HR9 := hide (hown9.rin (by have h2 := congrArg List.length ho3; simp only [List.length_map] at h2; rw [h2]; exact Nat.le_trans (by simp) HSM.out.1) (by rw [ho3]; exact HS3.out.2)); have HV3 := hide ho3; clear hown9 ho3)
          have hl3 : os3.length = os1.length := by
            have h2 := congrArg List.length HV3.out
            have h3 := congrArg List.length HV1.out
            simp only [List.length_map] at h2 h3
            omega
          rw [hl3]
          have HL3 := hide hl3
          clear hl3 u0 u1 u2 lu p0 p1 p2 lp T3
          have hol : os1.length ≤ 5864062014634 := by have := HR1.out.hcapm; exact this
          go_wp2_with (go_at_call 22; refine (num_any _ _).mono ?_; rintro e w' ⟨rfl, rfl⟩)
          go_loopw [17, 18] (fun i _ wr => ∃ k : Nat, k ≤ os1.length ∧ i = .int .i64 k ∧ Step w9 wr) (fun i _ _ => os1.length - (intOf i).toNat)
          case atStart => exact ⟨0, Nat.zero_le _, rfl, Step.of⟩
          case round =>
            obtain ⟨k, hk, rfl, hst⟩ := hrel
            obtain ⟨wo, hwo⟩ : ∃ x : World, x = wr := ⟨_, rfl⟩
            rw [← hwo] at hst
            rw [← hwo]
            clear hwo
            have hzo := hst.size
            by_cases hlt : k < os1.length
            · obtain ⟨b1, o1, hB1, hb1', r, hrk, hri, p0⟩ := HR1.out.row (w' := wo) inferInstance hlt
              obtain ⟨b2, o2, hB2, hb2', o, hok, hoi, u0⟩ := HR9.out.row (w' := wo) inferInstance (k := k) (by rw [HL3.out]; exact hlt)
              have hov : o.vs = r.vs ++ [Val.zero] := by
                have h1 : (os3.map RowA.vs)[k]? = some o.vs := by simp [hok]
                have h2 : (os1.map RowA.vs)[k]? = some r.vs := by simp [hrk]
                have h3 : (os1.map RowA.vs) = TL := HV1.out
                have h4 : (os3.map RowA.vs) = TL.map (· ++ [Val.zero]) := HV3.out
                rw [h4, List.getElem?_map, ← h3, h2] at h1
                simpa using h1.symm
              have hoc := hoi.hcap; have hoc2 := hoi.hcap2
              have hoa := hoi.at_
              rw [hov] at u0 hoa hoc
              rw [List.length_append] at u0 hoc
              obtain ⟨b3, o3, hB3, hb3', hc3⟩ := hoa.elem (w' := wo) inferInstance (k := r.vs.length) (by simp)
              obtain ⟨v0, v1, v2', v3'⟩ := At.l4 (hc3 r.vs.length [.int .i64 0, .int .i64 0, .bool false, .string ⟨#[]⟩] (by simp; rfl))
              rw [List.map_append] at hoa
              have HOA := hide hoa.pre
              rw [hB3] at u0 HOA
              have hrm := hri.hcapm
              have hoc3 : r.vs.length + 1 ≤ o.cap := hoc
              have SVL := hide (fun w' [Fut w9 w'] [Fut w2 w'] => sameValues_any r.vs (some ⟨b3, o3, none⟩) r.A o.cap r.cap w' HOA.out hri.at_ (by omega))
              rw [hB1, hB2]
              have hkl : (k : Int) < (os1.length : Int) := by omega
              have hk0 : (0 : Int) ≤ (k : Int) := by omega
              have l1 : b1 < wo.heap.size := by have := (fut w2 wo).size; omega
              have l2 : b2 < wo.heap.size := by omega
              have l3 : b3 < wo.heap.size := by omega
              have hr0 : (0 : Int) ≤ (r.vs.length : Int) := by omega
              have hr1 : (r.vs.length : Int) < (r.vs.length : Int) + 1 := by omega
              have hr2 : (r.vs.length : Int) ≤ (o.cap : Int) := by omega
              simp only [List.length_singleton] at u0
              clear hrk hok hov hoa hc3 hB1 hB2 hB3 hoc
              have hwk : IntKind.i64.wrap ((r.vs.length : Int) + 1) = (r.vs.length : Int) + 1 := by rw [IntKind.wrap_i64]; omega
              go_upto_region 21 with (fail)
              refine wp_region_held_drew (S := (fun w' => Step wo w' ∧ (∀ b o, b < wo.heap.size → w'.cell? ⟨b, o, none⟩ = wo.cell? ⟨b, o, none⟩))) (by kernel_rfl) (by (try dsimp only); (first | exact ⟨hS1, hS2⟩ | exact ⟨Step.of, (bcell (fut _ _)).1⟩)) (fun hHeld => ?_)
              refine wpAnyH_take (i := 0) (oi := ⟨some 112, _, _, _, _, _⟩) (v := ?_) rfl (by kernel_rfl) (by kernel_rfl) (by kernel_rfl) (fun _ _ _ h => h) (Or.inl ⟨by rfl, ?_⟩) (by assumption) ?_
              rotate_left
              · ((intro w hSw); (try dsimp only at hSw); go_simp; (try with_reducible rfl))
              (try simp only [Act.put, List.setIfInBounds_toArray, List.set_cons_zero, List.set_cons_succ])
              refine wpAnyH_take (i := 1) (oi := ⟨some 113, _, _, _, _, _⟩) (v := ?_) rfl (by kernel_rfl) (by kernel_rfl) (by kernel_rfl) (fun _ _ _ h => h) (Or.inl ⟨by rfl, ?_⟩) (by assumption) ?_
              rotate_left
              · ((intro w hSw); (try dsimp only at hSw); go_simp; (try with_reducible rfl))
              (try simp only [Act.put, List.setIfInBounds_toArray, List.set_cons_zero, List.set_cons_succ])
              refine wpAnyH_take (i := 6) (oi := ⟨some 118, _, _, _, _, _⟩) (v := ?_) rfl (by kernel_rfl) (by kernel_rfl) (by kernel_rfl) (fun _ _ _ h => h) (Or.inl ⟨by rfl, ?_⟩) (by assumption) ?_
              rotate_left
              · ((intro w hSw); (try dsimp only at hSw); go_simp; (try with_reducible rfl))
              (try simp only [Act.put, List.setIfInBounds_toArray, List.set_cons_zero, List.set_cons_succ])
              refine wpAnyH_take (i := 2) (oi := ⟨some 114, _, _, _, _, _⟩) (v := ?_) rfl (by kernel_rfl) (by kernel_rfl) (by kernel_rfl) (fun _ _ _ h => h) (Or.inl ⟨by rfl, ?_⟩) (by assumption) ?_
              rotate_left
              · ((intro w hSw); (try dsimp only at hSw); go_simp; (try with_reducible rfl))
              (try simp only [Act.put, List.setIfInBounds_toArray, List.set_cons_zero, List.set_cons_succ])
              refine wpAnyH_take (i := 7) (oi := ⟨some 119, _, _, _, _, _⟩) (v := ?_) rfl (by kernel_rfl) (by kernel_rfl) (by kernel_rfl) (fun _ _ _ h => h) (Or.inl ⟨by rfl, ?_⟩) (by assumption) ?_
              rotate_left
              · ((intro w hSw); (try dsimp only at hSw); go_simp; (try with_reducible rfl))
              (try simp only [Act.put, List.setIfInBounds_toArray, List.set_cons_zero, List.set_cons_succ])
              refine wpAnyH_take (i := 3) (oi := ⟨some 115, _, _, _, _, _⟩) (v := ?_) rfl (by kernel_rfl) (by kernel_rfl) (by kernel_rfl) (fun _ _ _ h => h) (Or.inl ⟨by rfl, ?_⟩) (by assumption) ?_
              rotate_left
              · ((intro w hSw); (try dsimp only at hSw); go_simp; (try with_reducible rfl))
              (try simp only [Act.put, List.setIfInBounds_toArray, List.set_cons_zero, List.set_cons_succ])
              refine wpAnyH_take (i := 4) (oi := ⟨some 116, _, _, _, _, _⟩) (v := ?_) rfl (by kernel_rfl) (by kernel_rfl) (by kernel_rfl) (fun _ _ _ h => h) (Or.inl ⟨by rfl, ?_⟩) (by assumption) ?_
              rotate_left
              · ((intro w hSw); (try dsimp only at hSw); go_simp; (try with_reducible rfl))
              (try simp only [Act.put, List.setIfInBounds_toArray, List.set_cons_zero, List.set_cons_succ])
              refine wpAnyH_take (i := 5) (oi := ⟨some 117, _, _, _, _, _⟩) (v := ?_) rfl (by kernel_rfl) (by kernel_rfl) (by kernel_rfl) (fun _ _ _ h => h) (Or.inl ⟨by rfl, ?_⟩) (by assumption) ?_
              rotate_left
              · ((intro w hSw); (try dsimp only at hSw); go_simp; (try with_reducible rfl))
              (try simp only [Act.put, List.setIfInBounds_toArray, List.set_cons_zero, List.set_cons_succ])
              refine wpAnyH_take (i := 8) (oi := ⟨some 120, _, _, _, _, _⟩) (v := ?_) rfl (by kernel_rfl) (by kernel_rfl) (by kernel_rfl) (fun _ _ _ h => h) (Or.inl ⟨by rfl, ?_⟩) (by assumption) ?_
              rotate_left
              · ((intro w hSw); (try dsimp only at hSw); go_simp; (try with_reducible rfl))
              (try simp only [Act.put, List.setIfInBounds_toArray, List.set_cons_zero, List.set_cons_succ])
              refine wpAnyH_take (i := 9) (oi := ⟨some 121, _, _, _, _, _⟩) (v := ?_) rfl (by kernel_rfl) (by kernel_rfl) (by kernel_rfl) (fun _ _ _ h => h) (Or.inl ⟨by rfl, ?_⟩) (by assumption) ?_
              rotate_left
              · ((intro w hSw); (try dsimp only at hSw); go_simp; (try with_reducible rfl))
              (try simp only [Act.put, List.setIfInBounds_toArray, List.set_cons_zero, List.set_cons_succ])
              refine wpAnyH_take (i := 10) (oi := ⟨some 122, _, _, _, _, _⟩) (v := ?_) rfl (by kernel_rfl) (by kernel_rfl) (by kernel_rfl) (fun _ _ _ h => h) (Or.inl ⟨by rfl, ?_⟩) (by assumption) ?_
              rotate_left
              · ((intro w hSw); (try dsimp only at hSw); go_simp; (try with_reducible rfl))
              (try simp only [Act.put, List.setIfInBounds_toArray, List.set_cons_zero, List.set_cons_succ])
              refine wpAnyH_take (i := 11) (oi := ⟨some 123, _, _, _, _, _⟩) (v := ?_) rfl (by kernel_rfl) (by kernel_rfl) (by kernel_rfl) (fun _ _ _ h => h) (Or.inl ⟨by rfl, ?_⟩) (by assumption) ?_
              rotate_left
              · ((intro w hSw); (try dsimp only at hSw); go_simp; (try with_reducible rfl))
              (try simp only [Act.put, List.setIfInBounds_toArray, List.set_cons_zero, List.set_cons_succ])
              refine wpAnyH_take (i := 15) (oi := ⟨some 127, _, _, _, _, _⟩) (v := ?_) rfl (by kernel_rfl) (by kernel_rfl) (by kernel_rfl) (fun _ _ _ h => h) (Or.inl ⟨by rfl, ?_⟩) (by assumption) ?_
              rotate_left
              · ((intro w hSw); (try dsimp only at hSw); go_simp; (try with_reducible rfl))
              (try simp only [Act.put, List.setIfInBounds_toArray, List.set_cons_zero, List.set_cons_succ])
              refine wpAnyH_take (i := 17) (oi := ⟨some 129, _, _, _, _, _⟩) (v := ?_) rfl (by kernel_rfl) (by kernel_rfl) (by kernel_rfl) (fun _ _ _ h => h) (Or.inl ⟨by rfl, ?_⟩) (by assumption) ?_
              rotate_left
              · ((intro w hSw); (try dsimp only at hSw); go_simp; (try with_reducible rfl))
              (try simp only [Act.put, List.setIfInBounds_toArray, List.set_cons_zero, List.set_cons_succ])
              refine wpAnyH_take (i := 18) (oi := ⟨some 130, _, _, _, _, _⟩) (v := ?_) rfl (by kernel_rfl) (by kernel_rfl) (by kernel_rfl) (fun _ _ _ h => h) (Or.inl ⟨by rfl, ?_⟩) (by assumption) ?_
              rotate_left
              · ((intro w hSw); (try dsimp only at hSw); go_simp; (try with_reducible rfl))
              (try simp only [Act.put, List.setIfInBounds_toArray, List.set_cons_zero, List.set_cons_succ])
              refine wpAnyH_take (i := 12) (oi := ⟨some 124, _, _, _, _, _⟩) (v := ?_) rfl (by kernel_rfl) (by kernel_rfl) (by kernel_rfl) (fun _ _ _ h => h) (Or.inl ⟨by rfl, ?_⟩) (by assumption) ?_
              rotate_left
              · ((intro w hSw); (try dsimp only at hSw); go_simp; (try with_reducible rfl))
              (try simp only [Act.put, List.setIfInBounds_toArray, List.set_cons_zero, List.set_cons_succ])
              refine wpAnyH_take (i := 19) (oi := ⟨some 131, _, _, _, _, _⟩) (v := ?_) rfl (by kernel_rfl) (by kernel_rfl) (by kernel_rfl) (fun _ _ _ h => h) (Or.inl ⟨by rfl, ?_⟩) (by assumption) ?_
              rotate_left
              · ((intro w hSw); (try dsimp only at hSw); go_simp; (try with_reducible rfl))
              (try simp only [Act.put, List.setIfInBounds_toArray, List.set_cons_zero, List.set_cons_succ])
              refine wpAnyH_take (i := 13) (oi := ⟨some 125, _, _, _, _, _⟩) (v := ?_) rfl (by kernel_rfl) (by kernel_rfl) (by kernel_rfl) (fun _ _ _ h => h) (Or.inl ⟨by rfl, ?_⟩) (by assumption) ?_
              rotate_left
              · ((intro w hSw); (try dsimp only at hSw); go_simp; (try with_reducible rfl))
              (try simp only [Act.put, List.setIfInBounds_toArray, List.set_cons_zero, List.set_cons_succ])
              refine wpAnyH_take (i := 20) (oi := ⟨some 132, _, _, _, _, _⟩) (v := ?_) rfl (by kernel_rfl) (by kernel_rfl) (by kernel_rfl) (fun _ _ _ h => h) (Or.inl ⟨by rfl, ?_⟩) (by assumption) ?_
              rotate_left
              · ((intro w hSw); (try dsimp only at hSw); go_simp; (try with_reducible rfl))
              (try simp only [Act.put, List.setIfInBounds_toArray, List.set_cons_zero, List.set_cons_succ])
              refine wpAnyH_take (i := 14) (oi := ⟨some 126, _, _, _, _, _⟩) (v := ?_) rfl (by kernel_rfl) (by kernel_rfl) (by kernel_rfl) (fun _ _ _ h => h) (Or.inl ⟨by rfl, ?_⟩) (by assumption) ?_
              rotate_left
              · ((intro w hSw); (try dsimp only at hSw); go_simp; (try with_reducible rfl))
              (try simp only [Act.put, List.setIfInBounds_toArray, List.set_cons_zero, List.set_cons_succ])
              refine wpAnyH_take (i := 21) (oi := ⟨some 133, _, _, _, _, _⟩) (v := ?_) rfl (by kernel_rfl) (by kernel_rfl) (by kernel_rfl) (fun _ _ _ h => h) (Or.inl ⟨by rfl, ?_⟩) (by assumption) ?_
              rotate_left
              · ((intro w hSw); (try dsimp only at hSw); go_simp; (try with_reducible rfl))
              (try simp only [Act.put, List.setIfInBounds_toArray, List.set_cons_zero, List.set_cons_succ])
              refine wpAnyH_take (i := 16) (oi := ⟨some 128, _, _, _, _, _⟩) (v := ?_) rfl (by kernel_rfl) (by kernel_rfl) (by kernel_rfl) (fun _ _ _ h => h) (Or.inl ⟨by rfl, ?_⟩) (by assumption) ?_
              rotate_left
              · ((intro w hSw); (try dsimp only at hSw); go_simp; (try with_reducible rfl))
              (try simp only [Act.put, List.setIfInBounds_toArray, List.set_cons_zero, List.set_cons_succ])
              refine wpAnyH_ready (rs := [22]) (by kernel_rfl) (by simp) ?_
              refine AllReadyH.cons (o := ⟨some 134, _, _, _, _, _⟩) rfl (fun K hK => ?_) AllReadyH.nil
              obtain ⟨hS1, hS2⟩ := hHeld
              go_simp
              (go_at_call 43; (with_reducible refine (SVL.out _).mono ?_); rintro e w10 ⟨rfl, hs10⟩)
              refine hK.out _ _ (by (try dsimp only); (first | exact ⟨hS1, hS2⟩ | exact ⟨Step.of, (bcell (fut _ _)).1⟩)) (fun hHeld => ?_)
              clear hK K
              (try simp only [Act.put, List.setIfInBounds_toArray, List.set_cons_zero, List.set_cons_succ])
              refine wpAnyH_take (i := 23) (oi := ⟨some 135, _, _, _, _, _⟩) (v := ?_) rfl (by kernel_rfl) (by kernel_rfl) (by kernel_rfl) (fun _ _ _ h => h) (Or.inl ⟨by rfl, ?_⟩) (by assumption) ?_
              rotate_left
              · ((intro w hSw); (try dsimp only at hSw); go_simp; (try with_reducible rfl))
              (try simp only [Act.put, List.setIfInBounds_toArray, List.set_cons_zero, List.set_cons_succ])
              refine wpAnyH_take (i := 24) (oi := ⟨some 136, _, _, _, _, _⟩) (v := ?_) rfl (by kernel_rfl) (by kernel_rfl) (by kernel_rfl) (fun _ _ _ h => h) (Or.inl ⟨by rfl, ?_⟩) (by assumption) ?_
              rotate_left
              · ((intro w hSw); (try dsimp only at hSw); go_simp; (try with_reducible rfl))
              (try simp only [Act.put, List.setIfInBounds_toArray, List.set_cons_zero, List.set_cons_succ])
              refine wpAnyH_take (i := 25) (oi := ⟨some 137, _, _, _, _, _⟩) (v := ?_) rfl (by kernel_rfl) (by kernel_rfl) (by kernel_rfl) (fun _ _ _ h => h) (Or.inl ⟨by rfl, ?_⟩) (by assumption) ?_
              rotate_left
              · ((intro w hSw); (try dsimp only at hSw); go_simp; (try with_reducible rfl))
              (try simp only [Act.put, List.setIfInBounds_toArray, List.set_cons_zero, List.set_cons_succ])
              refine wpAnyH_take (i := 26) (oi := ⟨some 138, _, _, _, _, _⟩) (v := ?_) rfl (by kernel_rfl) (by kernel_rfl) (by kernel_rfl) (fun _ _ _ h => h) (Or.inl ⟨by rfl, ?_⟩) (by assumption) ?_
              rotate_left
              · ((intro w hSw); (try dsimp only at hSw); go_simp; (try with_reducible rfl))
              (try simp only [Act.put, List.setIfInBounds_toArray, List.set_cons_zero, List.set_cons_succ])
              refine wpAnyH_take (i := 27) (oi := ⟨some 139, _, _, _, _, _⟩) (v := ?_) rfl (by kernel_rfl) (by kernel_rfl) (by kernel_rfl) (fun _ _ _ h => h) (Or.inl ⟨by rfl, ?_⟩) (by assumption) ?_
              rotate_left
              · ((intro w hSw); (try dsimp only at hSw); go_simp; (try with_reducible rfl))
              (try simp only [Act.put, List.setIfInBounds_toArray, List.set_cons_zero, List.set_cons_succ])
              refine wpAnyH_take (i := 31) (oi := ⟨some 143, _, _, _, _, _⟩) (v := ?_) rfl (by kernel_rfl) (by kernel_rfl) (by kernel_rfl) (fun _ _ _ h => h) (Or.inl ⟨by rfl, ?_⟩) (by assumption) ?_
              rotate_left
              · ((intro w hSw); (try dsimp only at hSw); go_simp; (try with_reducible rfl))
              (try simp only [Act.put, List.setIfInBounds_toArray, List.set_cons_zero, List.set_cons_succ])
              refine wpAnyH_take (i := 34) (oi := ⟨some 146, _, _, _, _, _⟩) (v := ?_) rfl (by kernel_rfl) (by kernel_rfl) (by kernel_rfl) (fun _ _ _ h => h) (Or.inl ⟨by rfl, ?_⟩) (by assumption) ?_
              rotate_left
              · ((intro w hSw); (try dsimp only at hSw); go_simp; (try with_reducible rfl))
              (try simp only [Act.put, List.setIfInBounds_toArray, List.set_cons_zero, List.set_cons_succ])
              refine wpAnyH_take (i := 28) (oi := ⟨some 140, _, _, _, _, _⟩) (v := ?_) rfl (by kernel_rfl) (by kernel_rfl) (by kernel_rfl) (fun _ _ _ h => h) (Or.inl ⟨by rfl, ?_⟩) (by assumption) ?_
              rotate_left
              · ((intro w hSw); (try dsimp only at hSw); go_simp; (try with_reducible rfl))
              (try simp only [Act.put, List.setIfInBounds_toArray, List.set_cons_zero, List.set_cons_succ])
              refine wpAnyH_take (i := 29) (oi := ⟨some 141, _, _, _, _, _⟩) (v := ?_) rfl (by kernel_rfl) (by kernel_rfl) (by kernel_rfl) (fun _ _ _ h => h) (Or.inl ⟨by rfl, ?_⟩) (by assumption) ?_
              rotate_left
              · ((intro w hSw); (try dsimp only at hSw); go_simp; (try with_reducible rfl))
              (try simp only [Act.put, List.setIfInBounds_toArray, List.set_cons_zero, List.set_cons_succ])
              refine wpAnyH_take (i := 30) (oi := ⟨some 142, _, _, _, _, _⟩) (v := ?_) rfl (by kernel_rfl) (by kernel_rfl) (by kernel_rfl) (fun _ _ _ h => h) (Or.inl ⟨by rfl, ?_⟩) (by assumption) ?_
              rotate_left
              · ((intro w hSw); (try dsimp only at hSw); go_simp; (try with_reducible rfl))
              (try simp only [Act.put, List.setIfInBounds_toArray, List.set_cons_zero, List.set_cons_succ])
              refine wpAnyH_take (i := 32) (oi := ⟨some 144, _, _, _, _, _⟩) (v := ?_) rfl (by kernel_rfl) (by kernel_rfl) (by kernel_rfl) (fun _ _ _ h => h) (Or.inl ⟨by rfl, ?_⟩) (by assumption) ?_
              rotate_left
              · ((intro w hSw); (try dsimp only at hSw); go_simp; (try with_reducible rfl))
              (try simp only [Act.put, List.setIfInBounds_toArray, List.set_cons_zero, List.set_cons_succ])
              refine wpAnyH_take (i := 33) (oi := ⟨some 145, _, _, _, _, _⟩) (v := ?_) rfl (by kernel_rfl) (by kernel_rfl) (by kernel_rfl) (fun _ _ _ h => h) (Or.inl ⟨by rfl, ?_⟩) (by assumption) ?_
              rotate_left
              · ((intro w hSw); (try dsimp only at hSw); go_simp; (try with_reducible rfl))
              (try simp only [Act.put, List.setIfInBounds_toArray, List.set_cons_zero, List.set_cons_succ])
              refine wpAnyH_take (i := 35) (oi := ⟨some 147, _, _, _, _, _⟩) (v := ?_) rfl (by kernel_rfl) (by kernel_rfl) (by kernel_rfl) (fun _ _ _ h => h) (Or.inl ⟨by rfl, ?_⟩) (by assumption) ?_
              rotate_left
              · ((intro w hSw); (try dsimp only at hSw); go_simp; (try with_reducible rfl))
              (try simp only [Act.put, List.setIfInBounds_toArray, List.set_cons_zero, List.set_cons_succ])
              refine wpAnyH_take (i := 36) (oi := ⟨some 148, _, _, _, _, _⟩) (v := ?_) rfl (by kernel_rfl) (by kernel_rfl) (by kernel_rfl) (fun _ _ _ h => h) (Or.inl ⟨by rfl, ?_⟩) (by assumption) ?_
              rotate_left
              · ((intro w hSw); (try dsimp only at hSw); go_simp; (try with_reducible rfl))
              (try simp only [Act.put, List.setIfInBounds_toArray, List.set_cons_zero, List.set_cons_succ])
              refine wpAnyH_done (by kernel_rfl) ?_ _
              go_wp2_with fail
              go_roundw
              case rel => exact ⟨k + 1, by omega, by go_num, Step.of⟩
              case measure => simp [intOf]; omega
            · obtain rfl : k = os1.length := by omega
              go_wp2_with fail
              go_ret
              exact ⟨rfl, Step.of⟩
      · have hgb : (B.2 != 0) = true := by simpa using hg
        clear hg
        go_quiet (fail)
        go_wp2_with fail
        go_ret
        exact ⟨rfl, Step.of⟩
  · have heb : (T.2 != 0) = true := by simpa using he
    have HE := hide he
    clear he
    go_enter Tryd.func8, Tryd.ntmps8
    go_wp2_with (first
      | (go_at_call 41; refine (awake14_any _).mono ?_; rintro e w1 ⟨rfl, hs1⟩; rw [← HW.out] at hs1; have l_ := (HSW.out.fut (w' := w1)); obtain ⟨q0, q1, q2⟩ := At.z3 l_.at0; have lq := l_.lt; have m_ := HDW.out.fut (w' := w1); obtain ⟨p0, p1, p2⟩ := At.z3 m_.at0; have lp := m_.lt; clear l_ m_)
      | (go_at_call 34; (with_reducible refine (T1.out _).mono ?_); intro e w2 hr2; obtain ⟨A2, v2, os1, ho1, rfl, hown2, hs2⟩ := hr2; have HO2 := hide hown2; have HV1 := hide ho1; clear hown2 ho1 q0 q1 q2 lq p0 p1 p2 lp)
      | (go_at_call 22; refine (num_any _ _).mono ?_; rintro e w' ⟨rfl, rfl⟩))
    have hE : os1 = [] := by
      have h1 := toR_bad (show (toR s d.rows d.cols d.vss).2 ≠ 0 by rw [HT.out]; exact HE.out)
      have h2 := HV1.out
      rw [← HT.out, h1] at h2
      simpa using h2
    go_ret
    exact ⟨ret_bool (by rw [hE]; rfl), Step.of⟩
end Go.Proofs.YtfojdjmeefglcaaDoor
