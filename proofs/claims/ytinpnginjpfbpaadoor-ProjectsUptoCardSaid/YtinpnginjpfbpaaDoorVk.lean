/-
  The document's To: a file's rows under a schema.
-/
import Derived.Test.YtinpnginjpfbpaaDoorVi
import Derived.Test.YtinpnginjpfbpaaDoorVj
import Derived.Test.YtinpnginjpfbpaaDoorRb
import Derived.Laws.MakeOwn
namespace Go.Proofs.YtinpnginjpfbpaaDoor
open Go.RowKit

theorem made_cells (z : Value) (n : Nat) : madeCells #[z] n = (List.replicate n z).toArray := by
  apply Array.ext
  · simp [size_madeCells]
  · intro i h1 h2
    simp [madeCells, Nat.mod_one]
/-- Numbers, each a cell. -/
def intCells' (l : List Int) : List Value := l.map fun x => .int .i64 x
/-- make([]int, n): numbers that are 0. -/
theorem made_ints (n : Nat) (hn : n ≤ 1000) : ∃ O : Obj, (∀ w : World, (Instr.makeSlice 51 (.int .i64 (n : Int)) (.int .i64 (n : Int))).run Tryd.prog w = .ok (.slice (some ⟨w.heap.size, 0, none⟩) n n) (w.alloc O)) ∧ ∀ w : World, Blk (w.alloc O) w.heap.size 3 (List.replicate n (.int .i64 0)) := by
  obtain ⟨ht, ⟨i, z, hi, hz, hs, hby, hzs⟩, _, _⟩ := eiInt
  have hz0 : z = .int .i64 0 := by
    have h : (Tryd.prog.info? 3).map (fun i => i.zero) = some (some (.int .i64 0)) := by kernel_rfl
    rw [hi] at h
    simp only [Option.map_some, Option.some.injEq] at h
    rw [hz] at h
    exact Option.some.inj h
  subst hz0
  refine ⟨.cells (List.replicate n (.int .i64 0)).toArray 3, fun w => ?_, fun w => Blk.new w _ _⟩
  have hr := run_make (P := Tryd.prog) w 51 3 i (.int .i64 0) ht hi hz .i64 .i64 n n (by omega) (Int.le_refl _) (by rw [hby]; omega) (by omega)
  rw [hs] at hr
  simp only [Int.toNat_natCast, Nat.mul_one] at hr
  rw [show (Value.int .i64 0).cells = #[.int .i64 0] from rfl, made_cells] at hr
  exact hr

set_option maxRecDepth 100000 in
set_option maxHeartbeats 16000000 in
theorem rto_any {w0 w1 : World} (s : Sch) (As : Option Addr) (cs : Nat) (d : DatA) (w : World) (hs : SchIn w0 s As cs) (hd : DatIn w1 d) [f0 : Fut w0 w] [f1 : Fut w1 w] :
    Calls Tryd.prog 7 #[.agg #[.int .i64 s.id, .slice As s.cols.length cs, .int .i64 s.next], .agg #[.int .i64 d.rows, .slice d.A d.cols.length d.cap, .slice d.Av d.vals.length d.cv]] w fun e w' => ∃ (A' : Option Addr) (c' : Nat) (os : List RowA), os.map RowA.vs = (toR s d.rows d.cols d.vss).1 ∧ e = .returned (.tuple #[.slice A' os.length c', .int .i64 (toR s d.rows d.cols d.vss).2]) ∧ OwnR w' w.heap.size A' os.length c' os ∧ Step w w' := by
  have z0 := f0.below.size; have z1 := f1.below.size
  have hcl := hs.len; have hdl := hd.clen; have hvl := hd.vals.hcap; have hvm := hd.vals.hcapm
  obtain ⟨T, hT⟩ : ∃ T, toR s d.rows d.cols d.vss = T := ⟨_, rfl⟩
  have HT : Hid ((if mayB s = true ∧ fileB d.rows d.cols d.vss = true ∧ s.cols.all (fromOk d.cols) = true then ((List.range d.rows.toNat).map (toRow d.vss (fromT d.cols s.cols)), 0) else ([], 1400)) = T) := by show _ = _; rw [← toR_eq]; exact hT
  rw [hT]
  clear hT
  obtain ⟨W, hW⟩ : ∃ W, W = (w.alloc (.cells #[.int .i64 s.id, .slice As s.cols.length cs, .int .i64 s.next] 24)).alloc (.cells #[.int .i64 d.rows, .slice d.A d.cols.length d.cap, .slice d.Av d.vals.length d.cv] 27) := ⟨_, rfl⟩
  have SW : Step w W := by rw [hW]; exact Step.of
  have HSW : Hid (Blk W w.heap.size 24 [.int .i64 s.id, .slice As s.cols.length cs, .int .i64 s.next]) := by rw [hW]; exact (Blk.new w [.int .i64 s.id, .slice As s.cols.length cs, .int .i64 s.next] 24).alloc _
  have HDW : Hid (Blk W (w.heap.size + 1) 27 [.int .i64 d.rows, .slice d.A d.cols.length d.cap, .slice d.Av d.vals.length d.cv]) := by rw [hW]; exact Blk.new_at (by simp) [.int .i64 d.rows, .slice d.A d.cols.length d.cap, .slice d.Av d.vals.length d.cv] 27
  have HW := hide hW
  have hzW := SW.size
  have hlW := HDW.out.lt
  clear hW
  have pm := fun w' [Fut w0 w'] => rmay_any s As cs w' hs
  unfold Sch.val at pm
  have pc := fun w' [Fut w1 w'] => rfile_any d w' hd
  cases hmb : mayB s with
  | false =>
    have hE : Hid (T = ([], 1400)) := by show _ = _; rw [← HT.out, if_neg (by rw [hmb]; simp)]
    rw [hmb] at pm
    have PM := hide pm
    clear pm hmb pc
    go_enter Tryd.func7, Tryd.ntmps7
    go_wp2_with (go_at_call 23; (with_reducible refine (PM.out _).mono ?_); rintro e w3 ⟨rfl, hs3⟩)
    go_ret2
    exact ⟨none, 0, [], by rw [hE.out]; rfl, by rw [hE.out]; rfl, ⟨Own.nil_ _ _ _ _, fun r h => by simp at h⟩, Step.of⟩
  | true =>
    have HMB := hide hmb
    have h12 := (may_fine hmb).1
    rw [hmb] at pm
    have PM := hide pm
    clear pm hmb
    cases hcm : fileB d.rows d.cols d.vss with
    | false =>
      have hE : Hid (T = ([], 1400)) := by show _ = _; rw [← HT.out, if_neg (by rw [hcm]; simp)]
      rw [hcm] at pc
      have PC := hide pc
      clear pc hcm
      go_enter Tryd.func7, Tryd.ntmps7
      go_wp2_with (first
        | (go_at_call 23; (with_reducible refine (PM.out _).mono ?_); rintro e w3 ⟨rfl, hs3⟩; rw [← HW.out] at hs3; have d_ := HDW.out.fut (w' := w3); obtain ⟨e0, e1, e2⟩ := At.z3 d_.at0; have le := d_.lt; clear d_)
        | (go_at_call 24; (with_reducible refine (PC.out _).mono ?_); rintro e w4 ⟨rfl, hs4⟩))
      go_ret2
      exact ⟨none, 0, [], by rw [hE.out]; rfl, by rw [hE.out]; rfl, ⟨Own.nil_ _ _ _ _, fun r h => by simp at h⟩, Step.of⟩
    | true =>
      have HCM := hide hcm
      obtain ⟨⟨hr0, hr1, hc0, hc1, hvc⟩, hcb⟩ := fileB_iff.1 hcm
      have HVC := hide hvc; have HCB := hide hcb
      rw [hcm] at pc
      have PC := hide pc
      clear pc hcm hvc hcb
      obtain ⟨OBJ, hmk, hmb⟩ := made_ints s.cols.length (by omega)
      have HMK := hide hmb
      clear hmb
      go_enter Tryd.func7, Tryd.ntmps7
      go_wp2_with (first
        | (go_at_call 23; (with_reducible refine (PM.out _).mono ?_); rintro e w3 ⟨rfl, hs3⟩; rw [← HW.out] at hs3; have d_ := HDW.out.fut (w' := w3); obtain ⟨e0, e1, e2⟩ := At.z3 d_.at0; have le := d_.lt; clear d_)
        | (go_at_call 24; (with_reducible refine (PC.out _).mono ?_); rintro e w4 ⟨rfl, hs4⟩; obtain ⟨q0, q1, q2⟩ := At.z3 (HSW.out.fut (w' := w4)).at0; have lq := (HSW.out.fut (w' := w4)).lt))
      clear e0 e1 e2 le q0 q1 q2 lq
      have hz3 := hs3.size; have hz4 := hs4.size
      obtain ⟨g, hg⟩ : ∃ g, g = w4.heap.size := ⟨_, rfl⟩
      obtain ⟨X4, hX4⟩ : ∃ x : World, x = w4.alloc OBJ := ⟨_, rfl⟩
      have HG4 : Hid (Blk X4 g 3 (intCells' (List.replicate s.cols.length 0))) := by
        show Blk _ _ _ _
        rw [hX4, hg]
        have h_ := HMK.out w4
        simpa [intCells'] using h_
      have hs5 : Step w4 X4 := by rw [hX4]; exact Step.of
      have hgw : w.heap.size ≤ g := by rw [hg]; omega
      rw [← hX4, ← hg]
      have HSX := hide (HSW.out.fut (w' := X4)); have HDX := hide (HDW.out.fut (w' := X4))
      have hgW : w.heap.size + 1 < g := by rw [hg]; omega
      clear hX4 hmk HMK hg
      have hX : Step w X4 := Step.of
      have hne1 : w.heap.size ≠ g := by omega
      have hne2 : w.heap.size + 1 ≠ g := by omega
      have HN1 := hide hne1; have HN2 := hide hne2
      clear hne1 hne2
      go_wp2_with fail
      go_loopw [7, 8] (fun i _ wr => ∃ (k : Nat) (L : List Int), k ≤ s.cols.length ∧ i = .int .i64 k ∧ Hid (L.length = s.cols.length) ∧ Hid (L.take k = fromT d.cols (s.cols.take k)) ∧ Hid ((s.cols.take k).all (fromOk d.cols) = true) ∧ Blk wr w.heap.size 24 [.int .i64 s.id, .slice As s.cols.length cs, .int .i64 s.next] ∧ Blk wr (w.heap.size + 1) 27 [.int .i64 d.rows, .slice d.A d.cols.length d.cap, .slice d.Av d.vals.length d.cv] ∧ Blk wr g 3 (intCells' L) ∧ Step w wr) (fun i _ _ => s.cols.length - (intOf i).toNat)
      case atStart => exact ⟨0, List.replicate s.cols.length 0, Nat.zero_le _, rfl, by show _ = _; simp, rfl, rfl, HSX.out, HDX.out, HG4.out, hX⟩
      case round =>
        clear HSX HDX HG4
        obtain ⟨k, L, hk, rfl, HLL, HLT, HOK, hbs, hbd, hbg, hst⟩ := hrel
        have HBS := hide hbs; have HBD := hide hbd; have HBG := hide hbg
        clear hbs hbd hbg
        obtain ⟨wo, rfl⟩ : ∃ x : World, x = wr := ⟨_, rfl⟩
        have hzo := hst.size
        have a_ := HBS.out
        obtain ⟨q0, q1, q2⟩ := At.z3 a_.at0
        have lq := a_.lt
        clear a_
        by_cases hlt : k < s.cols.length
        · obtain ⟨b, off, hA, hb, hc⟩ := hs.at_.elem (w' := wo) inferInstance (k := k) (by simpa using hlt)
          obtain ⟨c, hck⟩ : ∃ c, s.cols[k]? = some c := ⟨_, List.getElem?_eq_getElem hlt⟩
          have HAT : Hid (∀ w' [Fut w w'], At w' b (off + k * 3) c.cells) := by
            intro w' _
            haveI : Fut w0 w' := ⟨f0.below.trans ((fut w w').mono f0.below.size)⟩
            obtain ⟨b', off', hA', _, hc'⟩ := hs.at_.elem (w' := w') inferInstance (k := k) (by simpa using hlt)
            rw [hA] at hA'
            cases hA'
            exact hc' k c.cells (by simp [hck])
          rw [hA] at q1
          have hkl : (k : Int) < (s.cols.length : Int) := by omega
          have hk0 : (0 : Int) ≤ (k : Int) := by omega
          obtain ⟨u, hu⟩ : ∃ u, L[k]? = some u := ⟨_, List.getElem?_eq_getElem (by rw [HLL.out]; exact hlt)⟩
          have g5 : wo.cell? ⟨g, k, none⟩ = some (.int .i64 u) := by have := HBG.out.at0 k (.int .i64 u) (by simp [intCells', hu]); simpa using this
          have fg := HBG.out.free k; have lg := HBG.out.lt
          have HCK := hide hck; have HAA := hide hA
          clear hc hck hA hu
          go_wp2_with fail
          obtain ⟨Y, hY⟩ : ∃ x : World, x = wo.setCell ⟨g, k, none⟩ (.int .i64 (-1)) := ⟨_, rfl⟩
          have HYS : Hid (Blk Y w.heap.size 24 [.int .i64 s.id, .slice As s.cols.length cs, .int .i64 s.next]) := by rw [hY]; exact HBS.out.far (p := ⟨g, k, none⟩) HN1.out _
          have HYD : Hid (Blk Y (w.heap.size + 1) 27 [.int .i64 d.rows, .slice d.A d.cols.length d.cap, .slice d.Av d.vals.length d.cv]) := by rw [hY]; exact HBD.out.far (p := ⟨g, k, none⟩) HN2.out _
          have HYG : Hid (Blk Y g 3 (intCells' (L.set k (-1)))) := by
            show Blk _ _ _ _
            rw [hY]
            have h_ := HBG.out.set_ k (.int .i64 (-1))
            simpa [intCells', List.map_set] using h_
          have hYw : Step w Y := by rw [hY]; exact ⟨Below.setCell (p := ⟨g, k, none⟩) (fut w wo) hgw _⟩
          have HLK : Hid ((L.set k (-1))[k]? = some (-1)) := by show _ = _; rw [List.getElem?_set_self (by rw [HLL.out]; exact hlt)]
          have HLT2 : Hid ((L.set k (-1)).take k = fromT d.cols (s.cols.take k)) := by show _ = _; rw [List.take_set_of_le (Nat.le_refl _)]; exact HLT.out
          have HLL2 : Hid ((L.set k (-1)).length = s.cols.length) := by show _ = _; rw [List.length_set]; exact HLL.out
          rw [← hY]
          clear hY q0 q1 q2 lq g5 fg lg
          go_loopw [8] (fun j wr => ∃ (q : Nat) (L2 : List Int), q ≤ d.cols.length ∧ j = .int .i64 q ∧ Hid (L2.length = s.cols.length) ∧ Hid (L2.take k = fromT d.cols (s.cols.take k)) ∧ Hid (L2[k]? = some (idx (byId c.id) (d.cols.take q))) ∧ Hid (fromOk (d.cols.take q) c = true) ∧ Blk wr w.heap.size 24 [.int .i64 s.id, .slice As s.cols.length cs, .int .i64 s.next] ∧ Blk wr (w.heap.size + 1) 27 [.int .i64 d.rows, .slice d.A d.cols.length d.cap, .slice d.Av d.vals.length d.cv] ∧ Blk wr g 3 (intCells' L2) ∧ Step w wr) (fun j _ => d.cols.length - (intOf j).toNat)
          case atStart => exact ⟨0, L.set k (-1), Nat.zero_le _, rfl, HLL2.out, HLT2.out, by show _ = _; rw [HLK.out, List.take_zero, idx_nil], fromOk_none (by rw [List.take_zero, idx_nil]), HYS.out, HYD.out, HYG.out, hYw⟩
          case round =>
            clear HYS HYD HYG hYw HLK HLT2 HLL2
            obtain ⟨q, L2, hq, rfl, HLL2, HLT2, HLK, HFK, hbs, hbd, hbg, hst2⟩ := hrel
            have HCS := hide hbs; have HCD := hide hbd; have HCG := hide hbg
            clear hbs hbd hbg
            obtain ⟨wi, rfl⟩ : ∃ x : World, x = wr := ⟨_, rfl⟩
            have hzi := hst2.size
            have a_ := HCS.out.fut (w' := wi)
            obtain ⟨q0, q1, q2⟩ := At.z3 a_.at0
            have lq := a_.lt
            clear a_
            rw [HAA.out] at q1
            have a_ := HCD.out.fut (w' := wi)
            obtain ⟨y0, y1, y2⟩ := At.z3 a_.at0
            have ly := a_.lt
            clear a_
            by_cases hlq : q < d.cols.length
            · have hql : (q : Int) < (d.cols.length : Int) := by omega
              have hq0 : (0 : Int) ≤ (q : Int) := by omega
              obtain ⟨b6, off6, hA6, hb6, hc6⟩ := hd.cat.elem (w' := wi) inferInstance (k := q) (by simpa using hlq)
              obtain ⟨o, ho⟩ : ∃ o, d.cols[q]? = some o := ⟨_, List.getElem?_eq_getElem hlq⟩
              have HAT6 : Hid (∀ w' [Fut w w'], At w' b6 (off6 + q * 3) o.cells) := by
                intro w' _
                haveI : Fut w1 w' := ⟨f1.below.trans ((fut w w').mono f1.below.size)⟩
                obtain ⟨b', off', hA', _, hc'⟩ := hd.cat.elem (w' := w') inferInstance (k := q) (by simpa using hlq)
                rw [hA6] at hA'
                cases hA'
                exact hc' q o.cells (by simp [ho])
              rw [hA6] at y1
              have HA6 := hide hA6; have HO6 := hide ho
              obtain ⟨u0, u1, u2⟩ := At.l3 (HAT6.out wi)
              obtain ⟨p0, p1, p2⟩ := At.l3 (HAT.out wi)
              have l6 : b6 < wi.heap.size := by omega
              have lb : b < wi.heap.size := by omega
              clear hc6 hA6 ho
              by_cases hid : o.id = c.id
              · have HKI := hide hid
                have hidb : (o.id == c.id) = true := by simpa using hid
                go_wp2_with fail
                go_quiet (fail)
                obtain ⟨Y2, hY2⟩ : ∃ x : World, x = wi.drewN nq := ⟨_, rfl⟩
                have hs2 : Step wi Y2 := by rw [hY2]; exact Step.of
                rw [← hY2]
                clear hY2 q0 q1 q2 lq y0 y1 y2 ly u0 u1 u2 p0 p1 p2 l6 lb
                have hz2 := hs2.size
                have h_ := HCG.out.fut (w' := Y2)
                have g5 : Y2.cell? ⟨g, k, none⟩ = some (.int .i64 (idx (byId c.id) (d.cols.take q))) := by have := h_.at0 k (.int .i64 (idx (byId c.id) (d.cols.take q))) (by simp [intCells', HLK.out]); simpa using this
                have fg := h_.free k; have lg := h_.lt
                clear h_
                go_upto_region 13 with (fail)
                obtain ⟨Y3, hY3⟩ : ∃ x : World, x = Y2.setCell ⟨g, k, none⟩ (.int .i64 (q : Int)) := ⟨_, rfl⟩
                have HDS : Hid (Blk Y3 w.heap.size 24 [.int .i64 s.id, .slice As s.cols.length cs, .int .i64 s.next]) := by rw [hY3]; exact (HCS.out.fut (w' := Y2)).far (p := ⟨g, k, none⟩) HN1.out _
                have HDD : Hid (Blk Y3 (w.heap.size + 1) 27 [.int .i64 d.rows, .slice d.A d.cols.length d.cap, .slice d.Av d.vals.length d.cv]) := by rw [hY3]; exact (HCD.out.fut (w' := Y2)).far (p := ⟨g, k, none⟩) HN2.out _
                have HDG : Hid (Blk Y3 g 3 (intCells' (L2.set k (q : Int)))) := by
                  show Blk _ _ _ _
                  rw [hY3]
                  have h_ := (HCG.out.fut (w' := Y2)).set_ k (.int .i64 (q : Int))
                  simpa [intCells', List.map_set] using h_
                have hs3 : Step w Y3 := by rw [hY3]; exact ⟨Below.setCell (p := ⟨g, k, none⟩) (fut w Y2) hgw _⟩
                have hz3_ : Y3.heap.size = Y2.heap.size := by rw [hY3]; simp [World.setCell]
                rw [← hY3]
                clear hY3 g5 fg lg
                have a_ := HDS.out
                obtain ⟨q0, q1, q2⟩ := At.z3 a_.at0
                have lq := a_.lt
                clear a_
                rw [HAA.out] at q1
                have a_ := HDD.out
                obtain ⟨y0, y1, y2⟩ := At.z3 a_.at0
                have ly := a_.lt
                clear a_
                rw [HA6.out] at y1
                obtain ⟨u0, u1, u2⟩ := At.l3 (HAT6.out Y3)
                obtain ⟨p0, p1, p2⟩ := At.l3 (HAT.out Y3)
                have l6 : b6 < Y3.heap.size := by omega
                have lb : b < Y3.heap.size := by omega
                by_cases hkk : o.kind = c.kind
                · have hkb : (o.kind != c.kind) = false := by simpa using hkk
                  have HL2 : Hid ((L2.set k (q : Int))[k]? = some (idx (byId c.id) (d.cols.take (q + 1)))) := by show _ = _; rw [List.getElem?_set_self (by rw [HLL2.out]; exact hlt), idx_take_yes HVC.out HCB.out HO6.out HKI.out]
                  have HFK2 : Hid (fromOk (d.cols.take (q + 1)) c = true) := fromOk_take_yes HVC.out HCB.out HO6.out HKI.out hkk
                  have HL3 : Hid ((L2.set k (q : Int)).take k = fromT d.cols (s.cols.take k)) := by show _ = _; rw [List.take_set_of_le (Nat.le_refl _)]; exact HLT2.out
                  have HL4 : Hid ((L2.set k (q : Int)).length = s.cols.length) := by show _ = _; rw [List.length_set]; exact HLL2.out
                  clear hkk hid hidb
                  go_wp2_with fail
                  go_quiet (fail)
                  go_wp2_with fail
                  go_roundw
                  case rel => exact ⟨q + 1, L2.set k (q : Int), by omega, by go_num, HL4.out, HL3.out, HL2.out, HFK2.out, HDS.out.fut, HDD.out.fut, HDG.out.fut, Step.of⟩
                  case measure => simp [intOf]; omega
                · have hkb : (o.kind != c.kind) = true := by simpa using hkk
                  have hE : Hid (T = ([], 1400)) := by
                    show _ = _
                    rw [← HT.out, if_neg]
                    intro hh
                    rw [all_bad HCK.out (fromOk_bad HVC.out HCB.out HO6.out HKI.out hkk)] at hh
                    cases hh.2.2
                  clear hkk hid hidb
                  go_wp2_with fail
                  go_quiet (fail)
                  go_wp2_with fail
                  go_ret2
                  exact ⟨none, 0, [], by rw [hE.out]; rfl, by rw [hE.out]; rfl, ⟨Own.nil_ _ _ _ _, fun r h => by simp at h⟩, Step.of⟩
              · have hidb : (o.id == c.id) = false := by simpa using hid
                have HL2 : Hid (L2[k]? = some (idx (byId c.id) (d.cols.take (q + 1)))) := by show _ = _; rw [idx_take_no HO6.out hid]; exact HLK.out
                have HFK2 : Hid (fromOk (d.cols.take (q + 1)) c = true) := fromOk_take_no HO6.out hid HFK.out
                clear hid
                go_wp2_with fail
                go_quiet (fail)
                go_wp2_with fail
                go_roundw
                case rel => exact ⟨q + 1, L2, by omega, by go_num, HLL2.out, HLT2.out, HL2.out, HFK2.out, HCS.out.fut, HCD.out.fut, HCG.out.fut, Step.of⟩
                case measure => simp [intOf]; omega
            · obtain rfl : q = d.cols.length := by omega
              rw [List.take_length] at HLK HFK
              have hal : Hid ((s.cols.take (k + 1)).all (fromOk d.cols) = true) := by show _ = _; exact all_take_succ HCK.out HOK.out HFK.out
              have htk : Hid (L2.take (k + 1) = fromT d.cols (s.cols.take (k + 1))) := by show _ = _; rw [List.take_add_one, HLT2.out, HLK.out, fromT_succ HCK.out]; rfl
              go_wp2_with fail
              go_roundw
              case rel => exact ⟨k + 1, L2, by omega, by go_num, HLL2.out, htk.out, hal.out, HCS.out, HCD.out, HCG.out, hst2⟩
              case measure => simp [intOf]; omega
        · obtain rfl : k = s.cols.length := by omega
          have hLe : L = fromT d.cols s.cols := by
            have h_ := HLT.out
            rw [List.take_length] at h_
            rw [← h_, List.take_of_length_le (by rw [HLL.out]; exact Nat.le_refl _)]
          rw [List.take_length] at HOK
          obtain ⟨fr, hfr⟩ : ∃ fr, fromT d.cols s.cols = fr := ⟨_, rfl⟩
          rw [hLe, hfr] at HBG
          rw [hfr] at HT
          have HFL : Hid (fr.length = s.cols.length) := by show _ = _; rw [← hfr, fromT_len]
          have HFG : Hid (∀ (j : Nat), j < s.cols.length → fr[j]? = some (-1) ∨ ∃ a : Nat, fr[j]? = some (a : Int) ∧ a < d.cols.length) := by
            intro j hj
            have h1 : fr[j]? = some (idx (byId s.cols[j].id) d.cols) := by rw [← hfr, fromT, List.getElem?_map, List.getElem?_eq_getElem hj]; rfl
            rcases idx_cases2 (byId s.cols[j].id) d.cols with hi | ⟨a, hi, ha⟩
            · exact .inl (by rw [h1, hi])
            · exact .inr ⟨a, by rw [h1, hi], ha⟩
          clear hLe HLT HLL
          have hA3 : Step w wo := Step.of
          have hzA := hA3.size
          have HRT : Hid (T = ((List.range d.rows.toNat).map (toRow d.vss fr), 0)) := by show _ = _; rw [← HT.out, if_pos ⟨HMB.out, HCM.out, HOK.out⟩]
          obtain ⟨R, hR⟩ : ∃ R : Nat, d.rows = R := ⟨d.rows.toNat, by omega⟩
          have HRR := hide hR
          have hR1 : R ≤ 4096 := by omega
          have hy := HBD.out
          rw [hR] at hy
          obtain ⟨y0, y1, y2⟩ := At.z3 hy.at0; have ly := hy.lt
          clear hy hfr hR
          go_wp2_with fail
          obtain ⟨X, hX⟩ : ∃ x : World, x = wo := ⟨_, rfl⟩
          rw [← hX] at HBS HBD HBG hA3 hst hzo hzA
          rw [← hX]
          clear hX y0 y1 y2 ly q0 q1 q2 lq
          have hzX := (fut w1 X).size
          go_loopw [9, 10, 11, 12, 13] (fun out i _ _ _ wr => ∃ (k : Nat) (A2 : Option Addr) (c2 : Nat) (os : List RowA), k ≤ R ∧ i = .int .i64 k ∧ out = .slice A2 k c2 ∧ Hid (os.map RowA.vs = (List.range k).map (toRow d.vss fr)) ∧ Hid (os.length = k) ∧ OwnR wr X.heap.size A2 k c2 os ∧ Step X wr) (fun _ i _ _ _ _ => R - (intOf i).toNat)
          case atStart => exact ⟨0, none, 0, [], Nat.zero_le _, rfl, rfl, rfl, rfl, ⟨Own.nil_ _ _ _ _, fun r h => by simp at h⟩, Step.of⟩
          case round =>
            obtain ⟨k, A2, c2, os, hk, rfl, rfl, HOS, HOL, hownr, hst2⟩ := hrel
            have HR2 := hide hownr; clear hownr
            obtain ⟨wo, rfl⟩ : ∃ x : World, x = wr := ⟨_, rfl⟩
            have hzo2 := hst2.size
            have hy := HBD.out.fut (w' := wo)
            rw [HRR.out] at hy
            obtain ⟨y0, y1, y2⟩ := At.z3 hy.at0; have ly := hy.lt
            clear hy
            by_cases hlt : k < R
            · have hkl : (k : Int) < (R : Int) := by omega
              have hk0 : (0 : Int) ≤ (k : Int) := by omega
              go_wp2_with fail
              clear y0 y1 y2 ly
              obtain ⟨g12, hg⟩ : ∃ g, g = wo.heap.size := ⟨_, rfl⟩
              obtain ⟨X6, hX6⟩ : ∃ x : World, x = wo.alloc (.cells #[.slice none 0 0] 48) := ⟨_, rfl⟩
              have HC3 : Hid (Blk X6 g12 48 [.slice none 0 0]) := by rw [hX6, hg]; exact Blk.new wo [.slice none 0 0] 48
              have hz6 : X6.heap.size = g12 + 1 := by rw [hX6, hg]; simp
              have hs6 : Step wo X6 := by rw [hX6]; exact Step.of
              rw [← hX6, ← hg]
              have hg1 : g12 ≤ wo.heap.size := by omega
              have hg2 : wo.heap.size ≤ g12 := by omega
              have HG := hide hg
              clear hg
              go_loopw [12, 13] (fun i _ wr => ∃ (j : Nat) (A3 : Option Addr) (c3 : Nat), j ≤ s.cols.length ∧ i = .int .i64 j ∧ Blk wr g12 48 [.slice A3 j c3] ∧ Own wr (g12 + 1) 57 4 (.slice A3 j c3) ((toRow d.vss (fr.take j) k).map Val.cells) ∧ g12 + 1 ≤ wr.heap.size ∧ Step wo wr) (fun i _ _ => s.cols.length - (intOf i).toNat)
              case atStart => exact ⟨0, none, 0, Nat.zero_le _, rfl, HC3.out, Own.nil_ _ _ _ _, by omega, hs6⟩
              case round =>
                clear HC3 hz6 hs6 hX6
                obtain ⟨j, A3, c3, hj, rfl, hb3, hown3, hgwi, hst3⟩ := hrel
                have HO3 := hide hown3; have HC3 := hide hb3
                clear hown3 hb3
                obtain ⟨wi, rfl⟩ : ∃ x : World, x = wr := ⟨_, rfl⟩
                have hzi := hst3.size
                by_cases hlj : j < s.cols.length
                · have hjl : (j : Int) < (s.cols.length : Int) := by omega
                  have hj0 : (0 : Int) ≤ (j : Int) := by omega
                  have l4 : g < wi.heap.size := (HBG.out.fut (w' := wi)).lt
                  have HVB := hide (Blk.new wi [.int .i64 0, .int .i64 0, .bool false, .string ⟨#[]⟩] 57)
                  have HLN3 : Hid (((toRow d.vss (fr.take j) k).map Val.cells).length = j) := by show _ = _; rw [List.length_map, toRow_len, List.length_take, HFL.out]; omega
                  rcases HFG.out j hlj with hfa | ⟨a, hfa, hac⟩
                  · have f0 : wi.cell? ⟨g, j, none⟩ = some (.int .i64 (-1)) := by have := (HBG.out.fut (w' := wi)).at0 j (.int .i64 (-1)) (by simp [intCells', hfa]); simpa using this
                    have HTK : Hid ((toRow d.vss (fr.take (j + 1)) k).map Val.cells = (toRow d.vss (fr.take j) k).map Val.cells ++ [[.int .i64 0, .int .i64 0, .bool false, .string ⟨#[]⟩]]) := by show _ = _; rw [toRow_succ hfa, List.map_append, List.map_singleton]; rfl
                    clear hfa
                    go_upto_region 26 with (fail)
                    clear f0 l4
                    have F8 : Step wi (wi.alloc (.cells #[.int .i64 0, .int .i64 0, .bool false, .string ⟨#[]⟩] 57)) := Step.of
                    obtain ⟨X8, hX8⟩ : ∃ x : World, x = wi.alloc (.cells #[.int .i64 0, .int .i64 0, .bool false, .string ⟨#[]⟩] 57) := ⟨_, rfl⟩
                    rw [← hX8] at HVB F8
                    rw [← hX8]
                    clear hX8
                    obtain ⟨x0, x1, x2, x3⟩ := At.z4 HVB.out.at0
                    have lx := HVB.out.lt
                    have hc_ := HC3.out.fut (w' := X8)
                    have k3 := At.z1 hc_.at0; have lc3 := hc_.lt
                    clear hc_
                    have z8 := F8.size
                    have HOW := hide ((HO3.out.fut (w' := X8)).alloc (.cells #[.int .i64 0, .int .i64 0, .bool false, .string ⟨#[]⟩] 57))
                    have HNew := hide (SlAt.one X8 4 [.int .i64 0, .int .i64 0, .bool false, .string ⟨#[]⟩] 57)
                    go_wp2_with (at_builtin; go_loud (refine wpList_append_sl rfl (.tmp 105) (.tmp 107) 45 rfl eiV4 (base := g12 + 1) (xs := (toRow d.vss (fr.take j) k).map Val.cells) rfl HOW.out (vals_fit _) (ys := [[.int .i64 0, .int .i64 0, .bool false, .string ⟨#[]⟩]]) rfl (by simp) HNew.out (vals_fit [Val.zero]) (by rw [HLN3.out]; show (j + 1) * 40 ≤ _; omega) (Nat.le_trans hgwi (fut wi (X8.alloc (.cells #[.int .i64 0, .int .i64 0, .bool false, .string ⟨#[]⟩] 57))).size) (N := j + 1) (by rw [HLN3.out]; rfl) ?_; intro A7 c7 w7 hq1 hq2 hown7 hgr7 hbel7; have H7 := hide hown7; have hz7 := Nat.le_trans (Nat.le_trans hgwi (fut wi (X8.alloc (.cells #[.int .i64 0, .int .i64 0, .bool false, .string ⟨#[]⟩] 57))).size) hbel7.size; have hs7 : Step wo w7 := ⟨(fut wo (X8.alloc (.cells #[.int .i64 0, .int .i64 0, .bool false, .string ⟨#[]⟩] 57))).trans (hbel7.mono (by omega))⟩; have hb3 := ((HC3.out.fut (w' := X8)).alloc (.cells #[.int .i64 0, .int .i64 0, .bool false, .string ⟨#[]⟩] 57)).below hbel7 (by omega); clear k3 lc3; have k3 := At.z1 hb3.at0; have f3 := hb3.free; have lc3 := hb3.lt; have HD3 := hide hb3; clear hown7 hgr7 hbel7 hb3))
                    go_roundw
                    case rel =>
                      refine ⟨j + 1, A7, c7, by omega, by go_num, by simpa using HD3.out.set_ 0 (.slice A7 (j + 1) c7), ?_, by simp [World.setCell]; exact hz7, ⟨hs7.below.setCell (by simp; omega) _⟩⟩
                      rw [HTK.out]
                      exact H7.out.set_other HD3.out (by decide) 0 _
                    case measure => simp [intOf]; omega
                  · have f0 : wi.cell? ⟨g, j, none⟩ = some (.int .i64 (a : Int)) := by have := (HBG.out.fut (w' := wi)).at0 j (.int .i64 (a : Int)) (by simp [intCells', hfa]); simpa using this
                    have ha0 : (0 : Int) ≤ (a : Int) := by omega
                    go_upto_region 25 with (fail)
                    obtain ⟨X7, hX7⟩ : ∃ x : World, x = wi.alloc (.cells #[.int .i64 0, .int .i64 0, .bool false, .string ⟨#[]⟩] 57) := ⟨_, rfl⟩
                    have hs7 : Step wi X7 := by rw [hX7]; exact Step.of
                    have HVX : Hid (Blk X7 wi.heap.size 57 [.int .i64 0, .int .i64 0, .bool false, .string ⟨#[]⟩]) := by rw [hX7]; exact HVB.out
                    rw [← hX7]
                    clear hX7 HVB f0
                    have hz7 := hs7.size
                    have f0 : X7.cell? ⟨g, j, none⟩ = some (.int .i64 (a : Int)) := by have := (HBG.out.fut (w' := X7)).at0 j (.int .i64 (a : Int)) (by simp [intCells', hfa]); simpa using this
                    obtain ⟨b5, off5, hA5, hb5, ra, hra, hri, q0⟩ := hd.vals.row (w' := X7) inferInstance (k := a) (by have := HVC.out; simp [DatA.vss] at this; omega)
                    have hvk : d.vss[a]? = some ra.vs := by simp [DatA.vss, hra]
                    obtain ⟨hrl, _, _⟩ := colsB_len HCB.out a d.cols[a] ra.vs (List.getElem?_eq_getElem hac) hvk
                    have hrl2 : ra.vs.length = R := by have := HRR.out; omega
                    have hcapr := hri.hcap; have hcapmr := hri.hcapm
                    obtain ⟨b7, off7, hA7, hb7, hc7⟩ := hri.at_.elem (w' := X7) inferInstance (k := k) (by rw [List.length_map]; omega)
                    obtain ⟨v, hv⟩ : ∃ v, ra.vs[k]? = some v := ⟨_, List.getElem?_eq_getElem (by omega)⟩
                    obtain ⟨v0, v1, v2, v3⟩ := At.l4 (hc7 k v.cells (by simp [hv]))
                    have HTK : Hid ((toRow d.vss (fr.take (j + 1)) k).map Val.cells = (toRow d.vss (fr.take j) k).map Val.cells ++ [[.int .i64 (clean v).kind, .int .i64 (clean v).i, .bool (clean v).b, .string (clean v).s]]) := by
                      show _ = _
                      rw [toRow_succ hfa, List.map_append, List.map_singleton, toCell, if_pos (by omega), Int.toNat_natCast]
                      simp only [List.getD_eq_getElem?_getD, hvk, hv, Option.getD_some]
                      rfl
                    have CL := fun w' => vclean_any v w'
                    unfold Val.val at CL
                    have CL := hide CL
                    have hal : (a : Int) < (d.vals.length : Int) := by have := HVC.out; simp [DatA.vss] at this; omega
                    have hkl2 : (k : Int) < (ra.vs.length : Int) := by omega
                    have l5 : b5 < wi.heap.size := by omega
                    have l7 : b7 < wi.heap.size := by omega
                    have hy := HBD.out.fut (w' := X7)
                    rw [hA5] at hy
                    rw [hA7] at q0
                    obtain ⟨y0, y1, y2⟩ := At.z3 hy.at0
                    have ly : w.heap.size + 1 < wi.heap.size := by omega
                    clear hfa hc7 hv hvk hra hy
                    have HA5 := hide hA5; have HA7 := hide hA7
                    clear hA5 hA7
                    refine wp_region_held_drew (S := (fun w' => Step wi w' ∧ (∀ b o, b < wi.heap.size → w'.cell? ⟨b, o, none⟩ = X7.cell? ⟨b, o, none⟩))) (by kernel_rfl) (by (try dsimp only); (first | exact ⟨hS1, hS2⟩ | exact ⟨Step.of, fun b o hb => ((bcell (fut wi _)).1 b o hb).trans ((bcell (fut wi X7)).1 b o hb).symm⟩)) (fun hHeld => ?_)
                    refine wpAnyH_take (i := 0) (oi := ⟨some 91, _, _, _, _, _⟩) (v := ?_) rfl (by kernel_rfl) (by kernel_rfl) (by kernel_rfl) (fun _ _ _ h => h) (Or.inl ⟨by rfl, ?_⟩) (by assumption) ?_
                    rotate_left
                    · ((intro w hSw); (try dsimp only at hSw); go_simp; (try with_reducible rfl))
                    (try simp only [Act.put, List.setIfInBounds_toArray, List.set_cons_zero, List.set_cons_succ])
                    refine wpAnyH_take (i := 2) (oi := ⟨some 93, _, _, _, _, _⟩) (v := ?_) rfl (by kernel_rfl) (by kernel_rfl) (by kernel_rfl) (fun _ _ _ h => h) (Or.inl ⟨by rfl, ?_⟩) (by assumption) ?_
                    rotate_left
                    · ((intro w hSw); (try dsimp only at hSw); go_simp; (try with_reducible rfl))
                    (try simp only [Act.put, List.setIfInBounds_toArray, List.set_cons_zero, List.set_cons_succ])
                    refine wpAnyH_take (i := 3) (oi := ⟨some 94, _, _, _, _, _⟩) (v := ?_) rfl (by kernel_rfl) (by kernel_rfl) (by kernel_rfl) (fun _ _ _ h => h) (Or.inl ⟨by rfl, ?_⟩) (by assumption) ?_
                    rotate_left
                    · ((intro w hSw); (try dsimp only at hSw); go_simp; (try with_reducible rfl))
                    (try simp only [Act.put, List.setIfInBounds_toArray, List.set_cons_zero, List.set_cons_succ])
                    refine wpAnyH_take (i := 9) (oi := ⟨some 100, _, _, _, _, _⟩) (v := ?_) rfl (by kernel_rfl) (by kernel_rfl) (by kernel_rfl) (fun _ _ _ h => h) (Or.inl ⟨by rfl, ?_⟩) (by assumption) ?_
                    rotate_left
                    · ((intro w hSw); (try dsimp only at hSw); go_simp; (try with_reducible rfl))
                    (try simp only [Act.put, List.setIfInBounds_toArray, List.set_cons_zero, List.set_cons_succ])
                    refine wpAnyH_take (i := 1) (oi := ⟨some 92, _, _, _, _, _⟩) (v := ?_) rfl (by kernel_rfl) (by kernel_rfl) (by kernel_rfl) (fun _ _ _ h => h) (Or.inl ⟨by rfl, ?_⟩) (by assumption) ?_
                    rotate_left
                    · ((intro w hSw); (try dsimp only at hSw); go_simp; (try with_reducible rfl))
                    (try simp only [Act.put, List.setIfInBounds_toArray, List.set_cons_zero, List.set_cons_succ])
                    refine wpAnyH_take (i := 4) (oi := ⟨some 95, _, _, _, _, _⟩) (v := ?_) rfl (by kernel_rfl) (by kernel_rfl) (by kernel_rfl) (fun _ _ _ h => h) (Or.inl ⟨by rfl, ?_⟩) (by assumption) ?_
                    rotate_left
                    · ((intro w hSw); (try dsimp only at hSw); go_simp; (try with_reducible rfl))
                    (try simp only [Act.put, List.setIfInBounds_toArray, List.set_cons_zero, List.set_cons_succ])
                    refine wpAnyH_take (i := 5) (oi := ⟨some 96, _, _, _, _, _⟩) (v := ?_) rfl (by kernel_rfl) (by kernel_rfl) (by kernel_rfl) (fun _ _ _ h => h) (Or.inl ⟨by rfl, ?_⟩) (by assumption) ?_
                    rotate_left
                    · ((intro w hSw); (try dsimp only at hSw); go_simp; (try with_reducible rfl))
                    (try simp only [Act.put, List.setIfInBounds_toArray, List.set_cons_zero, List.set_cons_succ])
                    refine wpAnyH_take (i := 6) (oi := ⟨some 97, _, _, _, _, _⟩) (v := ?_) rfl (by kernel_rfl) (by kernel_rfl) (by kernel_rfl) (fun _ _ _ h => h) (Or.inl ⟨by rfl, ?_⟩) (by assumption) ?_
                    rotate_left
                    · ((intro w hSw); (try dsimp only at hSw); go_simp; (try with_reducible rfl))
                    (try simp only [Act.put, List.setIfInBounds_toArray, List.set_cons_zero, List.set_cons_succ])
                    refine wpAnyH_take (i := 7) (oi := ⟨some 98, _, _, _, _, _⟩) (v := ?_) rfl (by kernel_rfl) (by kernel_rfl) (by kernel_rfl) (fun _ _ _ h => h) (Or.inl ⟨by rfl, ?_⟩) (by assumption) ?_
                    rotate_left
                    · ((intro w hSw); (try dsimp only at hSw); go_simp; (try with_reducible rfl))
                    (try simp only [Act.put, List.setIfInBounds_toArray, List.set_cons_zero, List.set_cons_succ])
                    refine wpAnyH_take (i := 8) (oi := ⟨some 99, _, _, _, _, _⟩) (v := ?_) rfl (by kernel_rfl) (by kernel_rfl) (by kernel_rfl) (fun _ _ _ h => h) (Or.inl ⟨by rfl, ?_⟩) (by assumption) ?_
                    rotate_left
                    · ((intro w hSw); (try dsimp only at hSw); go_simp; (try with_reducible rfl))
                    (try simp only [Act.put, List.setIfInBounds_toArray, List.set_cons_zero, List.set_cons_succ])
                    refine wpAnyH_take (i := 10) (oi := ⟨some 101, _, _, _, _, _⟩) (v := ?_) rfl (by kernel_rfl) (by kernel_rfl) (by kernel_rfl) (fun _ _ _ h => h) (Or.inl ⟨by rfl, ?_⟩) (by assumption) ?_
                    rotate_left
                    · ((intro w hSw); (try dsimp only at hSw); go_simp; (try with_reducible rfl))
                    (try simp only [Act.put, List.setIfInBounds_toArray, List.set_cons_zero, List.set_cons_succ])
                    refine wpAnyH_take (i := 11) (oi := ⟨some 102, _, _, _, _, _⟩) (v := ?_) rfl (by kernel_rfl) (by kernel_rfl) (by kernel_rfl) (fun _ _ _ h => h) (Or.inl ⟨by rfl, ?_⟩) (by assumption) ?_
                    rotate_left
                    · ((intro w hSw); (try dsimp only at hSw); go_simp; (try with_reducible rfl))
                    (try simp only [Act.put, List.setIfInBounds_toArray, List.set_cons_zero, List.set_cons_succ])
                    refine wpAnyH_ready (rs := [12]) (by kernel_rfl) (by simp) ?_
                    refine AllReadyH.cons (o := ⟨some 103, _, _, _, _, _⟩) rfl (fun K hK => ?_) AllReadyH.nil
                    obtain ⟨hS1, hS2⟩ := hHeld
                    go_simp
                    (go_at_call 25; (with_reducible refine (CL.out _).mono ?_); rintro e w8 ⟨rfl, hs8⟩; have bx := (HVX.out.fut (w' := w8)); obtain ⟨x0, x1, x2, x3⟩ := At.z4 bx.at0; have fx := bx.free; have lx := bx.lt; clear bx)
                    refine hK.out _ _ (by (try dsimp only); (first | exact ⟨hS1, hS2⟩ | exact ⟨Step.of, fun b o hb => ((bcell (fut wi _)).1 b o hb).trans ((bcell (fut wi X7)).1 b o hb).symm⟩)) (fun hHeld => ?_)
                    clear hK K
                    (try simp only [Act.put, List.setIfInBounds_toArray, List.set_cons_zero, List.set_cons_succ])
                    refine wpAnyH_ready (rs := [13]) (by kernel_rfl) (by simp) ?_
                    refine AllReadyH.cons (o := ⟨none, _, _, _, _, _⟩) rfl (fun K hK => ?_) AllReadyH.nil
                    go_simp
                    refine hK.out _ _ (by (try dsimp only); (first | exact ⟨hS1, hS2⟩ | exact ⟨Step.of, fun b o hb => ((bcell (fut wi _)).1 b o hb).trans ((bcell (fut wi X7)).1 b o hb).symm⟩)) (fun hHeld => ?_)
                    clear hK K
                    (try simp only [Act.put, List.setIfInBounds_toArray, List.set_cons_zero, List.set_cons_succ])
                    refine wpAnyH_done (by kernel_rfl) ?_ _
                    have HVB : Hid (Blk ((((w8.setCell ⟨wi.heap.size, 0, none⟩ (.int .i64 (clean v).kind)).setCell ⟨wi.heap.size, 1, none⟩ (.int .i64 (clean v).i)).setCell ⟨wi.heap.size, 2, none⟩ (.bool (clean v).b)).setCell ⟨wi.heap.size, 3, none⟩ (.string (clean v).s)) wi.heap.size 57 [.int .i64 (clean v).kind, .int .i64 (clean v).i, .bool (clean v).b, .string (clean v).s]) := by
                      have := (((HVX.out.fut (w' := w8)).set_ 0 (.int .i64 (clean v).kind)).set_ 1 (.int .i64 (clean v).i)).set_ 2 (.bool (clean v).b) |>.set_ 3 (.string (clean v).s)
                      exact this
                    have F8 : Step wi ((((w8.setCell ⟨wi.heap.size, 0, none⟩ (.int .i64 (clean v).kind)).setCell ⟨wi.heap.size, 1, none⟩ (.int .i64 (clean v).i)).setCell ⟨wi.heap.size, 2, none⟩ (.bool (clean v).b)).setCell ⟨wi.heap.size, 3, none⟩ (.string (clean v).s)) := Step.of
                    obtain ⟨X8, hX8⟩ : ∃ x : World, x = ((((w8.setCell ⟨wi.heap.size, 0, none⟩ (.int .i64 (clean v).kind)).setCell ⟨wi.heap.size, 1, none⟩ (.int .i64 (clean v).i)).setCell ⟨wi.heap.size, 2, none⟩ (.bool (clean v).b)).setCell ⟨wi.heap.size, 3, none⟩ (.string (clean v).s)) := ⟨_, rfl⟩
                    clear hHeld HVX x0 x1 x2 x3 fx lx v0 v1 v2 v3 f0 l4 l5 l7 y0 y1 y2 ly q0
                    rw [← hX8] at HVB F8
                    rw [← hX8]
                    clear hX8
                    obtain ⟨x0, x1, x2, x3⟩ := At.z4 HVB.out.at0
                    have lx := HVB.out.lt
                    have hc_ := HC3.out.fut (w' := X8)
                    have k3 := At.z1 hc_.at0; have lc3 := hc_.lt
                    clear hc_
                    have z8 := F8.size
                    have HOW := hide ((HO3.out.fut (w' := X8)).alloc (.cells #[.int .i64 (clean v).kind, .int .i64 (clean v).i, .bool (clean v).b, .string (clean v).s] 57))
                    have HNew := hide (SlAt.one X8 4 [.int .i64 (clean v).kind, .int .i64 (clean v).i, .bool (clean v).b, .string (clean v).s] 57)
                    go_wp2_with (at_builtin; go_loud (refine wpList_append_sl rfl (.tmp 105) (.tmp 107) 45 rfl eiV4 (base := g12 + 1) (xs := (toRow d.vss (fr.take j) k).map Val.cells) rfl HOW.out (vals_fit _) (ys := [[.int .i64 (clean v).kind, .int .i64 (clean v).i, .bool (clean v).b, .string (clean v).s]]) rfl (by simp) HNew.out (vals_fit [clean v]) (by rw [HLN3.out]; show (j + 1) * 40 ≤ _; omega) (Nat.le_trans hgwi (fut wi (X8.alloc (.cells #[.int .i64 (clean v).kind, .int .i64 (clean v).i, .bool (clean v).b, .string (clean v).s] 57))).size) (N := j + 1) (by rw [HLN3.out]; rfl) ?_; intro A7 c7 w7 hq1 hq2 hown7 hgr7 hbel7; have H7 := hide hown7; have hz7 := Nat.le_trans (Nat.le_trans hgwi (fut wi (X8.alloc (.cells #[.int .i64 (clean v).kind, .int .i64 (clean v).i, .bool (clean v).b, .string (clean v).s] 57))).size) hbel7.size; have hs7 : Step wo w7 := ⟨(fut wo (X8.alloc (.cells #[.int .i64 (clean v).kind, .int .i64 (clean v).i, .bool (clean v).b, .string (clean v).s] 57))).trans (hbel7.mono (by omega))⟩; have hb3 := ((HC3.out.fut (w' := X8)).alloc (.cells #[.int .i64 (clean v).kind, .int .i64 (clean v).i, .bool (clean v).b, .string (clean v).s] 57)).below hbel7 (by omega); clear k3 lc3; have k3 := At.z1 hb3.at0; have f3 := hb3.free; have lc3 := hb3.lt; have HD3 := hide hb3; clear hown7 hgr7 hbel7 hb3))
                    go_roundw
                    case rel =>
                      refine ⟨j + 1, A7, c7, by omega, by go_num, by simpa using HD3.out.set_ 0 (.slice A7 (j + 1) c7), ?_, by simp [World.setCell]; exact hz7, ⟨hs7.below.setCell (by simp; omega) _⟩⟩
                      rw [HTK.out]
                      exact H7.out.set_other HD3.out (by decide) 0 _
                    case measure => simp [intOf]; omega
                · obtain rfl : j = s.cols.length := by omega
                  have HVS : Hid (toRow d.vss (fr.take s.cols.length) k = toRow d.vss fr k) := by show _ = _; rw [← HFL.out, List.take_length]
                  rw [HVS.out] at HO3
                  have HVL : Hid ((toRow d.vss fr k).length = s.cols.length) := by show _ = _; rw [toRow_len, HFL.out]
                  have k3 := At.z1 HC3.out.at0; have lc3 := HC3.out.lt
                  have HOW := hide ((HR2.out.out.fut (w' := wi)).alloc (.cells #[.slice A3 s.cols.length c3] 48))
                  have HNew := hide (SlAt.one wi 1 [.slice A3 s.cols.length c3] 48)
                  go_wp2_with (at_builtin; go_loud (refine wpList_append_sl rfl (.tmp 110) (.tmp 112) 25 rfl eiRow (base := X.heap.size) (xs := os.map RowA.cells) rfl HOW.out (rows_fit _) (ys := [[.slice A3 s.cols.length c3]]) rfl (by simp) HNew.out (slice_fit' A3 s.cols.length c3) (by rw [List.length_map, HOL.out]; show (k + 1) * 24 ≤ _; omega) (fut X (wi.alloc (.cells #[.slice A3 s.cols.length c3] 48))).size (N := k + 1) (by rw [List.length_map, HOL.out]; rfl) ?_; intro A7 c7 w7 hq1 hq2 hown7 hgr7 hbel7; have HR7 := hide (OwnR.app (r := ⟨A3, c3, toRow d.vss fr k⟩) ((HR2.out.fut (w' := wi)).fut (w' := wi.alloc (.cells #[.slice A3 s.cols.length c3] 48))) (own_len' ((HO3.out.more (base' := X.heap.size) (by omega)).alloc (.cells #[.slice A3 s.cols.length c3] 48)) HVL.out) (row_cells' hown7 HVL.out) hgr7); have HB7 := hide hbel7; clear hown7 hgr7 hbel7))
                  go_roundw
                  case rel => exact ⟨k + 1, A7, c7, os ++ [⟨A3, c3, toRow d.vss fr k⟩], by omega, by go_num, rfl, by show _ = _; rw [List.range_succ, List.map_append, List.map_append, HOS.out]; rfl, by show _ = _; rw [List.length_append, HOL.out]; rfl, HR7.out, ⟨(fut X (wi.alloc (.cells #[.slice A3 s.cols.length c3] 48))).trans HB7.out⟩⟩
                  case measure => simp [intOf]; omega
            · obtain rfl : k = R := by omega
              have hE : Hid (T = ((List.range k).map (toRow d.vss fr), 0)) := by show _ = _; rw [HRT.out, HRR.out, Int.toNat_natCast]
              go_wp2_with fail
              go_ret2
              exact ⟨A2, c2, os, by rw [hE.out]; exact HOS.out, by rw [hE.out, HOL.out]; rfl, by rw [HOL.out]; exact ⟨HR2.out.out.more hzA, fun r hr => (HR2.out.rows r hr).more hzA⟩, Step.of⟩
end Go.Proofs.YtinpnginjpfbpaaDoor
