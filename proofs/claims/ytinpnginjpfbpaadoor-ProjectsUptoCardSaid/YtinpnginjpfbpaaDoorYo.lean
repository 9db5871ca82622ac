/-
  project.To: a file's rows under a schema.
-/
import Derived.Test.YtinpnginjpfbpaaDoorYp
namespace Go.Proofs.YtinpnginjpfbpaaDoor
open Go.RowKit

theorem pto1_any {w0 : World} (g : Nat) (c o : Col) (w : World) (hr : Blk w0 g 53 [.int .i64 c.id, .string c.name, .int .i64 c.kind]) [hf : Fut w0 w] :
    Calls Tryd.prog 21 (#[o.val] ++ #[.pointer (some ⟨g, 0, none⟩)]) w fun e w' => e = .returned (.bool (byId c.id o)) ∧ Step w w' := by
  show Calls Tryd.prog 21 #[.agg #[.int .i64 o.id, .string o.name, .int .i64 o.kind], .pointer (some ⟨g, 0, none⟩)] w _
  have hR := (hr.fut (w' := w))
  have lr := hR.lt
  obtain ⟨r0, r1, r2⟩ := At.z3 hR.at0
  clear hr hR
  go_enter Tryd.func21, Tryd.ntmps21
  go_wp2_with fail
  go_ret
  exact ⟨rfl, Step.of⟩
theorem idxCol_any {w0 : World} (f : FuncId) (caps : Array Value) (p : Col → Bool) (A : Option Addr) (cap : Nat) (cols : List Col) (w : World)
    (hB : cols.length ≤ 4611686018427387904) (hat : SlAt w0 w0.heap.size 3 A (cols.map Col.cells)) [f0 : Fut w0 w]
    (hcall : ∀ args w, (callFunc f args).run Tryd.prog w = .ok (.enter f args) w)
    (hf : ∀ c ∈ cols, ∀ w' [Fut w w'], Calls Tryd.prog f (#[c.val] ++ caps) w' fun e w'' => e = .returned (.bool (p c)) ∧ Step w' w'') :
    Calls Tryd.prog 20 #[.slice A cols.length cap, .func (.func f) #[] caps] w fun e w' => e = .returned (.int .i64 (idx p cols)) ∧ Step w w' :=
  (indexFuncCol_any f caps p A cap cols w hB hat.fut hcall fun c hc w' hb => (@hf c hc w' ⟨hb⟩).mono fun _ _ h => ⟨h.1, h.2.below.mono hb.size⟩).mono fun _ _ h => ⟨h.1, ⟨h.2⟩⟩

theorem fromT_succ {fc cs : List Col} {k : Nat} {c : Col} (h : cs[k]? = some c) : fromT fc (cs.take (k + 1)) = fromT fc (cs.take k) ++ [idx (byId c.id) fc] := by
  unfold fromT
  rw [List.take_add_one, h]
  simp
theorem fromT_len (fc cs : List Col) : (fromT fc cs).length = cs.length := by simp [fromT]
theorem toRow_len (vals : List (List Val)) (fr : List Int) (i : Nat) : (toRow vals fr i).length = fr.length := by simp [toRow]
theorem toRow_succ {vals : List (List Val)} {fr : List Int} {i j : Nat} {a : Int} (h : fr[j]? = some a) : toRow vals (fr.take (j + 1)) i = toRow vals (fr.take j) i ++ [toCell vals i a] := by
  unfold toRow
  rw [List.take_add_one, h]
  simp
theorem toR_eq (s : Sch) (rows : Int) (fc : List Col) (vals : List (List Val)) : toR s rows fc vals = if mayB s = true ∧ fileB rows fc vals = true ∧ s.cols.all (fromOk fc) = true then ((List.range rows.toNat).map (toRow vals (fromT fc s.cols)), 0) else ([], 1400) := rfl
theorem fromOk_yes {fc : List Col} {c o : Col} {a : Nat} (h : idx (byId c.id) fc = (a : Int)) (ho : fc[a]? = some o) (hk : o.kind = c.kind) : fromOk fc c = true := by
  unfold fromOk
  rw [h, if_pos (by omega), Int.toNat_natCast, ho]
  simpa using hk
theorem fromOk_no {fc : List Col} {c o : Col} {a : Nat} (h : idx (byId c.id) fc = (a : Int)) (ho : fc[a]? = some o) (hk : o.kind ≠ c.kind) : fromOk fc c = false := by
  unfold fromOk
  rw [h, if_pos (by omega), Int.toNat_natCast, ho]
  simpa using hk
theorem fromOk_none {fc : List Col} {c : Col} (h : idx (byId c.id) fc = -1) : fromOk fc c = true := by
  unfold fromOk
  rw [h, if_neg (by omega)]
theorem Fut.tr' {a b c : World} (h1 : Fut a b) (h2 : Fut b c) : Fut a c := ⟨h1.below.trans (h2.below.mono h1.below.size)⟩
theorem idx_cases2 {α : Type} (p : α → Bool) (l : List α) : idx p l = -1 ∨ ∃ j : Nat, idx p l = (j : Int) ∧ j < l.length := by
  unfold idx
  split
  · exact .inr ⟨_, rfl, by assumption⟩
  · exact .inl rfl
set_option maxRecDepth 100000 in
set_option maxHeartbeats 16000000 in
theorem pto_any {w0 w1 : World} (s : Sch) (As : Option Addr) (cs : Nat) (d : DatA) (w : World) (hs : SchIn w0 s As cs) (hd : DatIn w1 d) [f0 : Fut w0 w] [f1 : Fut w1 w] :
    Calls Tryd.prog 6 #[.agg #[.int .i64 s.id, .slice As s.cols.length cs, .int .i64 s.next], .agg #[.int .i64 d.rows, .slice d.A d.cols.length d.cap, .slice d.Av d.vals.length d.cv]] w fun e w' => ∃ (A' : Option Addr) (c' : Nat) (os : List RowA), os.map RowA.vs = (toR s d.rows d.cols d.vss).1 ∧ e = .returned (.tuple #[.slice A' os.length c', .int .i64 (toR s d.rows d.cols d.vss).2]) ∧ OwnR w' w.heap.size A' os.length c' os ∧ Step w w' := by
  have z0 := f0.below.size; have z1 := f1.below.size
  have hcl := hs.len; have hdl := hd.clen; have hvl := hd.vals.hcap; have hvm := hd.vals.hcapm
  obtain ⟨T, hT⟩ : ∃ T, toR s d.rows d.cols d.vss = T := ⟨_, rfl⟩
  have HT : Hid ((if mayB s = true ∧ fileB d.rows d.cols d.vss = true ∧ s.cols.all (fromOk d.cols) = true then ((List.range d.rows.toNat).map (toRow d.vss (fromT d.cols s.cols)), 0) else ([], 1400)) = T) := by show _ = _; rw [← toR_eq]; exact hT
  rw [hT]
  clear hT
  obtain ⟨W, hW⟩ : ∃ W, W = (w.alloc (.cells #[.int .i64 s.id, .slice As s.cols.length cs, .int .i64 s.next] 24)).alloc (.cells #[.int .i64 d.rows, .slice d.A d.cols.length d.cap, .slice d.Av d.vals.length d.cv] 27) := ⟨_, rfl⟩
  have SW : Step w W := by rw [hW]; exact Step.of
  have HSW : Hid (Blk W w.heap.size 24 [.int .i64 s.id, .slice As s.cols.length cs, .int .i64 s.next]) := by rw [hW]; exact (Blk.new w [.int .i64 s.id, .slice As s.cols.length cs, .int .i64 s.next] 24).alloc _
  have HDW : Hid (Blk W (w.heap.size + 1) 27 [.int .i64 d.rows, .slice d.A d.cols.length d.cap, .slice d.Av d.vals.length d.cv]) := by rw [hW]; exact Blk.new_at (by simp) [.int .i64 d.rows, .slice d.A d.cols.length d.cap, .slice d.Av d.vals.length d.cv] 27
  have HW := hide hW
  have hzW := SW.size
  have hlW := HDW.out.lt
  clear hW
  have pm := fun w' [Fut w0 w'] => pmay s As cs w' hs
  unfold Sch.val at pm
  have pc := fun w' [Fut w1 w'] => cmay_any d w' hd
  cases hmb : mayB s with
  | false =>
    have hE : Hid (T = ([], 1400)) := by show _ = _; rw [← HT.out, if_neg (by rw [hmb]; simp)]
    rw [hmb] at pm
    have PM := hide pm
    clear pm hmb pc
    go_enter Tryd.func6, Tryd.ntmps6
    go_wp2_with (go_at_call 18; (with_reducible refine (PM.out _).mono ?_); rintro e w3 ⟨rfl, hs3⟩)
    go_ret2
    exact ⟨none, 0, [], by rw [hE.out]; rfl, by rw [hE.out]; rfl, ⟨Own.nil_ _ _ _ _, fun r h => by simp at h⟩, Step.of⟩
  | true =>
    have HMB := hide hmb
    have h12 := (may_fine hmb).1
    rw [hmb] at pm
    have PM := hide pm
    clear pm hmb
    have CM1 : Hid (∀ (x : World), x = W → Step W x) := fun x h => by rw [h]; exact Step.of
    cases hcm : fileB d.rows d.cols d.vss with
    | false =>
      have hE : Hid (T = ([], 1400)) := by show _ = _; rw [← HT.out, if_neg (by rw [hcm]; simp)]
      rw [hcm] at pc
      have PC := hide pc
      clear pc hcm
      go_enter Tryd.func6, Tryd.ntmps6
      go_wp2_with (first
        | (go_at_call 18; (with_reducible refine (PM.out _).mono ?_); rintro e w3 ⟨rfl, hs3⟩; rw [← HW.out] at hs3; have d_ := HDW.out.fut (w' := w3); obtain ⟨e0, e1, e2⟩ := At.z3 d_.at0; have le := d_.lt; clear d_)
        | (go_at_call 19; (with_reducible refine (PC.out _).mono ?_); rintro e w4 ⟨rfl, hs4⟩))
      go_ret2
      exact ⟨none, 0, [], by rw [hE.out]; rfl, by rw [hE.out]; rfl, ⟨Own.nil_ _ _ _ _, fun r h => by simp at h⟩, Step.of⟩
    | true =>
      have HCM := hide hcm
      obtain ⟨⟨hr0, hr1, hc0, hc1, hvc⟩, hcb⟩ := fileB_iff.1 hcm
      have HVC := hide hvc; have HCB := hide hcb
      rw [hcm] at pc
      have PC := hide pc
      clear pc hcm hvc hcb
      go_enter Tryd.func6, Tryd.ntmps6
      go_wp2_with (first
        | (go_at_call 18; (with_reducible refine (PM.out _).mono ?_); rintro e w3 ⟨rfl, hs3⟩; rw [← HW.out] at hs3; have d_ := HDW.out.fut (w' := w3); obtain ⟨e0, e1, e2⟩ := At.z3 d_.at0; have le := d_.lt; clear d_)
        | (go_at_call 19; (with_reducible refine (PC.out _).mono ?_); rintro e w4 ⟨rfl, hs4⟩; obtain ⟨q0, q1, q2⟩ := At.z3 (HSW.out.fut (w' := w4)).at0; have lq := (HSW.out.fut (w' := w4)).lt))
      clear e0 e1 e2 le q0 q1 q2 lq
      have hz3 := hs3.size; have hz4 := hs4.size
      go_loopw [6, 8, 9, 27] (fun out _ _ i wr => ∃ (k : Nat) (A' : Option Addr) (c' : Nat), k ≤ s.cols.length ∧ i = .int .i64 k ∧ out = .slice A' k c' ∧ Hid ((s.cols.take k).all (fromOk d.cols) = true) ∧ Own wr w4.heap.size 3 1 (.slice A' k c') (intCells (fromT d.cols (s.cols.take k))) ∧ Step w4 wr) (fun _ _ _ i _ => s.cols.length - (intOf i).toNat)
      case atStart => exact ⟨0, none, 0, Nat.zero_le _, rfl, rfl, rfl, Own.nil_ _ _ _ _, Step.of⟩
      case round =>
        obtain ⟨k, A', c', hk, rfl, rfl, HOK, hown, hst⟩ := hrel
        have HO := hide hown; clear hown
        obtain ⟨wo, rfl⟩ : ∃ x : World, x = wr := ⟨_, rfl⟩
        have hzo := hst.size
        by_cases hlt : k < s.cols.length
        · obtain ⟨b, off, hA, hb, hc⟩ := hs.at_.elem (w' := wo) inferInstance (k := k) (by simpa using hlt)
          rw [hA]
          obtain ⟨c, hck⟩ : ∃ c, s.cols[k]? = some c := ⟨_, List.getElem?_eq_getElem hlt⟩
          obtain ⟨p0, p1, p2⟩ := At.l3 (hc k c.cells (by simp [hck]))
          have hlb : b < wo.heap.size := by omega
          have hkl : (k : Int) < (s.cols.length : Int) := by omega
          have hk0 : (0 : Int) ≤ (k : Int) := by omega
          have HCB2 := hide (Blk.new wo [.int .i64 c.id, .string c.name, .int .i64 c.kind] 53)
          have HFS := hide (fromT_succ (fc := d.cols) hck)
          have HCK := hide hck
          have hA' := hide hA
          clear hc hck hA
          have ix := fun w' [Fut w1 w'] [Fut (wo.alloc (.cells #[.int .i64 c.id, .string c.name, .int .i64 c.kind] 53)) w'] => idxCol_any 21 #[.pointer (some ⟨wo.heap.size, 0, none⟩)] (byId c.id) d.A d.cap d.cols w' (by omega) hd.cat (fun args w1 => by kernel_rfl) (fun o _ w'' hf => by have := Fut.tr' (c := w'') (by assumption : Fut (wo.alloc (.cells #[.int .i64 c.id, .string c.name, .int .i64 c.kind] 53)) w') hf; exact pto1_any wo.heap.size c o w'' HCB2.out)
          have y_ := HDW.out.fut (w' := wo.alloc (.cells #[.int .i64 c.id, .string c.name, .int .i64 c.kind] 53))
          obtain ⟨y0, y1, y2⟩ := At.z3 y_.at0; have ly := y_.lt
          clear y_
          rcases idx_cases2 (byId c.id) d.cols with hi | ⟨a, hi, ha⟩
          · have HOK2 : Hid ((s.cols.take (k + 1)).all (fromOk d.cols) = true) := by show _ = _; exact all_take_succ HCK.out HOK.out (fromOk_none hi)
            rw [hi] at ix HFS
            have IX := hide ix
            clear ix hi
            have HLN : Hid ((intCells (fromT d.cols (s.cols.take k))).length = k) := by show _ = _; rw [intCells_len, fromT_len]; simp; omega
            go_upto_region 8 with (go_at_call 20; (with_reducible refine (IX.out _).mono ?_); rintro e w5 ⟨rfl, hs5⟩)
            have x_ := HCB2.out.fut (w' := w5)
            obtain ⟨x0, x1, x2⟩ := At.z3 x_.at0; have lx := x_.lt
            clear x_ p0 p1 p2 y0 y1 y2 ly
            go_quiet (fail)
            obtain ⟨w6, hw6⟩ : ∃ x : World, x = w5.drewN nq := ⟨_, rfl⟩
            have F6 : Step w5 w6 := by rw [hw6]; exact Step.of
            rw [← hw6]
            clear hw6
            have HNew := hide (SlAt.one w6 1 [.int .i64 (-1)] 3)
            have HOw := hide ((HO.out.fut (w' := w6)).alloc (.cells #[.int .i64 (-1)] 3))
            go_wp2_with (at_builtin; go_loud (refine wpList_append_sl rfl (.tmp 48) (.tmp 50) 51 rfl eiInt (base := w4.heap.size) (xs := intCells (fromT d.cols (s.cols.take k))) rfl HOw.out (int_fit _) (ys := [[.int .i64 (-1)]]) rfl (by simp) HNew.out (int_fit [(-1)]) (by rw [HLN.out]; show (k + 1) * 8 ≤ _; omega) (fut w4 (w6.alloc (.cells #[.int .i64 (-1)] 3))).size (N := k + 1) (by rw [HLN.out]; rfl) ?_; intro A5 c5 w7 hq1 hq2 hown5 hgr5 hbel5; have H5 := hide hown5; have HB5 := hide hbel5; clear hown5 hgr5 hbel5))
            go_roundw
            case rel =>
              refine ⟨k + 1, A5, c5, by omega, by go_num, rfl, HOK2, ?_, ⟨(fut w4 (w6.alloc (.cells #[.int .i64 (-1)] 3))).trans HB5.out⟩⟩
              rw [HFS.out]
              have := H5.out
              simpa [intCells] using this
            case measure => simp [intOf]; omega
          · obtain ⟨o, ho⟩ : ∃ o, d.cols[a]? = some o := ⟨_, List.getElem?_eq_getElem ha⟩
            have HO6 := hide ho
            have ha0 : (0 : Int) ≤ (a : Int) := by omega
            have hal : (a : Int) < (d.cols.length : Int) := by omega
            by_cases hkk : o.kind = c.kind
            · have HOK2 : Hid ((s.cols.take (k + 1)).all (fromOk d.cols) = true) := by show _ = _; exact all_take_succ HCK.out HOK.out (fromOk_yes hi ho hkk)
              have hkb : (o.kind != c.kind) = false := by simpa using hkk
              rw [hi] at ix HFS
              have IX := hide ix
              clear ix hi ho hkk
              have HLN : Hid ((intCells (fromT d.cols (s.cols.take k))).length = k) := by show _ = _; rw [intCells_len, fromT_len]; simp; omega
              go_upto_region 8 with (go_at_call 20; (with_reducible refine (IX.out _).mono ?_); rintro e w5 ⟨rfl, hs5⟩)
              have x_ := HCB2.out.fut (w' := w5)
              obtain ⟨x0, x1, x2⟩ := At.z3 x_.at0; have lx := x_.lt
              have y_ := HDW.out.fut (w' := w5)
              clear p0 p1 p2 y0 y1 y2 ly
              obtain ⟨y0, y1, y2⟩ := At.z3 y_.at0; have ly := y_.lt
              obtain ⟨b6, off6, hA6, hb6, hc6⟩ := hd.cat.elem (w' := w5) inferInstance (k := a) (by simpa using ha)
              rw [hA6] at y1
              obtain ⟨u0, u1, u2⟩ := At.l3 (hc6 a o.cells (by simp [HO6.out]))
              have l6 : b6 < w5.heap.size := by have := (fut w1 w5).size; omega
              clear x_ y_ hA6 hc6
              go_quiet (fail)
              obtain ⟨w6, hw6⟩ : ∃ x : World, x = w5.drewN nq := ⟨_, rfl⟩
              have F6 : Step w5 w6 := by rw [hw6]; exact Step.of
              rw [← hw6]
              clear hw6
              have HNew := hide (SlAt.one w6 1 [.int .i64 (a : Int)] 3)
              have HOw := hide ((HO.out.fut (w' := w6)).alloc (.cells #[.int .i64 (a : Int)] 3))
              go_wp2_with (at_builtin; go_loud (refine wpList_append_sl rfl (.tmp 48) (.tmp 50) 51 rfl eiInt (base := w4.heap.size) (xs := intCells (fromT d.cols (s.cols.take k))) rfl HOw.out (int_fit _) (ys := [[.int .i64 (a : Int)]]) rfl (by simp) HNew.out (int_fit [(a : Int)]) (by rw [HLN.out]; show (k + 1) * 8 ≤ _; omega) (fut w4 (w6.alloc (.cells #[.int .i64 (a : Int)] 3))).size (N := k + 1) (by rw [HLN.out]; rfl) ?_; intro A5 c5 w7 hq1 hq2 hown5 hgr5 hbel5; have H5 := hide hown5; have HB5 := hide hbel5; clear hown5 hgr5 hbel5))
              go_roundw
              case rel =>
                refine ⟨k + 1, A5, c5, by omega, by go_num, rfl, HOK2, ?_, ⟨(fut w4 (w6.alloc (.cells #[.int .i64 (a : Int)] 3))).trans HB5.out⟩⟩
                rw [HFS.out]
                have := H5.out
                simpa [intCells] using this
              case measure => simp [intOf]; omega
            · have hkb : (o.kind != c.kind) = true := by simpa using hkk
              have hE : Hid (T = ([], 1400)) := by
                show _ = _
                rw [← HT.out, if_neg]
                intro hh
                rw [all_bad HCK.out (fromOk_no hi ho hkk)] at hh
                cases hh.2.2
              rw [hi] at ix HFS
              have IX := hide ix
              clear ix hi ho hkk
              go_upto_region 8 with (go_at_call 20; (with_reducible refine (IX.out _).mono ?_); rintro e w5 ⟨rfl, hs5⟩)
              have x_ := HCB2.out.fut (w' := w5)
              obtain ⟨x0, x1, x2⟩ := At.z3 x_.at0; have lx := x_.lt
              have y_ := HDW.out.fut (w' := w5)
              clear p0 p1 p2 y0 y1 y2 ly
              obtain ⟨y0, y1, y2⟩ := At.z3 y_.at0; have ly := y_.lt
              obtain ⟨b6, off6, hA6, hb6, hc6⟩ := hd.cat.elem (w' := w5) inferInstance (k := a) (by simpa using ha)
              rw [hA6] at y1
              obtain ⟨u0, u1, u2⟩ := At.l3 (hc6 a o.cells (by simp [HO6.out]))
              have l6 : b6 < w5.heap.size := by have := (fut w1 w5).size; omega
              clear x_ y_ hA6 hc6
              go_quiet (fail)
              go_wp2_with fail
              go_ret2
              exact ⟨none, 0, [], by rw [hE.out]; rfl, by rw [hE.out]; rfl, ⟨Own.nil_ _ _ _ _, fun r h => by simp at h⟩, Step.of⟩
        · obtain rfl : k = s.cols.length := by omega
          rw [List.take_length] at HO HOK
          obtain ⟨fr, hfr⟩ : ∃ fr, fromT d.cols s.cols = fr := ⟨_, rfl⟩
          rw [hfr] at HO HT
          have HFL : Hid (fr.length = s.cols.length) := by show _ = _; rw [← hfr, fromT_len]
          have HFG : Hid (∀ (j : Nat), j < s.cols.length → fr[j]? = some (-1) ∨ ∃ a : Nat, fr[j]? = some (a : Int) ∧ a < d.cols.length) := by
            intro j hj
            have h1 : fr[j]? = some (idx (byId s.cols[j].id) d.cols) := by rw [← hfr, fromT, List.getElem?_map, List.getElem?_eq_getElem hj]; rfl
            rcases idx_cases2 (byId s.cols[j].id) d.cols with hi | ⟨a, hi, ha⟩
            · exact .inl (by rw [h1, hi])
            · exact .inr ⟨a, by rw [h1, hi], ha⟩
          have HFA : Hid (SlAt wo wo.heap.size 1 A' (intCells fr)) := HO.out.sl (int_fit _).len
          have hA3 : Step w wo := Step.of
          have hzA := hA3.size
          have HRT : Hid (T = ((List.range d.rows.toNat).map (toRow d.vss fr), 0)) := by show _ = _; rw [← HT.out, if_pos ⟨HMB.out, HCM.out, HOK.out⟩]
          obtain ⟨R, hR⟩ : ∃ R : Nat, d.rows = R := ⟨d.rows.toNat, by omega⟩
          have HRR := hide hR
          have hR1 : R ≤ 4096 := by omega
          have hy := HDW.out.fut (w' := wo)
          rw [hR] at hy
          obtain ⟨y0, y1, y2⟩ := At.z3 hy.at0; have ly := hy.lt
          clear hy hfr hR
          go_wp2_with fail
          obtain ⟨X, hX⟩ : ∃ x : World, x = wo := ⟨_, rfl⟩
          rw [← hX] at HO HFA hA3 hst hzo hzA
          rw [← hX]
          clear hX y0 y1 y2 ly
          have hzX := (fut w1 X).size
          go_loopw [10, 11, 12, 14, 15, 55, 60] (fun out _ _ _ _ i _ wr => ∃ (k : Nat) (A2 : Option Addr) (c2 : Nat) (os : List RowA), k ≤ R ∧ i = .int .i64 k ∧ out = .slice A2 k c2 ∧ Hid (os.map RowA.vs = (List.range k).map (toRow d.vss fr)) ∧ Hid (os.length = k) ∧ OwnR wr X.heap.size A2 k c2 os ∧ Step X wr) (fun _ _ _ _ _ i _ _ => R - (intOf i).toNat)
          case atStart => exact ⟨0, none, 0, [], Nat.zero_le _, rfl, rfl, rfl, rfl, ⟨Own.nil_ _ _ _ _, fun r h => by simp at h⟩, Step.of⟩
          case round =>
            obtain ⟨k, A2, c2, os, hk, rfl, rfl, HOS, HOL, hownr, hst2⟩ := hrel
            have HR2 := hide hownr; clear hownr
            obtain ⟨wo, rfl⟩ : ∃ x : World, x = wr := ⟨_, rfl⟩
            have hzo2 := hst2.size
            by_cases hlt : k < R
            · have hkl : (k : Int) < (R : Int) := by omega
              have hk0 : (0 : Int) ≤ (k : Int) := by omega
              go_wp2_with fail
              obtain ⟨g12, hg⟩ : ∃ g, g = wo.heap.size := ⟨_, rfl⟩
              obtain ⟨X6, hX6⟩ : ∃ x : World, x = wo.alloc (.cells #[.slice none 0 0] 48) := ⟨_, rfl⟩
              have HC3 : Hid (Blk X6 g12 48 [.slice none 0 0]) := by rw [hX6, hg]; exact Blk.new wo [.slice none 0 0] 48
              have hz6 : X6.heap.size = g12 + 1 := by rw [hX6, hg]; simp
              have hs6 : Step wo X6 := by rw [hX6]; exact Step.of
              rw [← hX6, ← hg]
              have hg1 : g12 ≤ wo.heap.size := by omega
              have hg2 : wo.heap.size ≤ g12 := by omega
              have HG := hide hg
              clear hg
              go_loopw [14, 15, 60] (fun _ _ i wr => ∃ (j : Nat) (A3 : Option Addr) (c3 : Nat), j ≤ s.cols.length ∧ i = .int .i64 j ∧ Blk wr g12 48 [.slice A3 j c3] ∧ Own wr (g12 + 1) 57 4 (.slice A3 j c3) ((toRow d.vss (fr.take j) k).map Val.cells) ∧ g12 + 1 ≤ wr.heap.size ∧ Step wo wr) (fun _ _ i _ => s.cols.length - (intOf i).toNat)
              case atStart => exact ⟨0, none, 0, Nat.zero_le _, rfl, HC3.out, Own.nil_ _ _ _ _, by omega, hs6⟩
              case round =>
                clear HC3 hz6 hs6 hX6
                obtain ⟨j, A3, c3, hj, rfl, hb3, hown3, hgwi, hst3⟩ := hrel
                have HO3 := hide hown3; have HC3 := hide hb3
                clear hown3 hb3
                obtain ⟨wi, rfl⟩ : ∃ x : World, x = wr := ⟨_, rfl⟩
                have hzi := hst3.size
                by_cases hlj : j < s.cols.length
                · have hjl : (j : Int) < (s.cols.length : Int) := by omega
                  have hj0 : (0 : Int) ≤ (j : Int) := by omega
                  obtain ⟨b4, off4, hA4, hb4, hc4⟩ := HFA.out.elem (w' := wi) inferInstance (k := j) (by rw [intCells_len, HFL.out]; exact hlj)
                  have l4 : b4 < wi.heap.size := by omega
                  have HVB := hide (Blk.new wi [.int .i64 0, .int .i64 0, .bool false, .string ⟨#[]⟩] 57)
                  have HLN3 : Hid (((toRow d.vss (fr.take j) k).map Val.cells).length = j) := by show _ = _; rw [List.length_map, toRow_len, List.length_take, HFL.out]; omega
                  rw [hA4]
                  rcases HFG.out j hlj with hfa | ⟨a, hfa, hac⟩
                  · have f0 := At.l1 (hc4 j [.int .i64 (-1)] (by simp [intCells, hfa]))
                    simp only [Nat.mul_one] at f0
                    have HTK : Hid ((toRow d.vss (fr.take (j + 1)) k).map Val.cells = (toRow d.vss (fr.take j) k).map Val.cells ++ [[.int .i64 0, .int .i64 0, .bool false, .string ⟨#[]⟩]]) := by show _ = _; rw [toRow_succ hfa, List.map_append, List.map_singleton]; rfl
                    clear hc4 hfa hA4
                    go_upto_region 23 with (fail)
                    clear f0 l4
                    have F8 : Step wi (wi.alloc (.cells #[.int .i64 0, .int .i64 0, .bool false, .string ⟨#[]⟩] 57)) := Step.of
                    obtain ⟨X8, hX8⟩ : ∃ x : World, x = wi.alloc (.cells #[.int .i64 0, .int .i64 0, .bool false, .string ⟨#[]⟩] 57) := ⟨_, rfl⟩
                    rw [← hX8] at HVB F8
                    rw [← hX8]
                    clear hX8
                    obtain ⟨x0, x1, x2, x3⟩ := At.z4 HVB.out.at0
                    have lx := HVB.out.lt
                    have hc_ := HC3.out.fut (w' := X8)
                    have k3 := At.z1 hc_.at0; have lc3 := hc_.lt
                    clear hc_
                    have z8 := F8.size
                    have HOW := hide ((HO3.out.fut (w' := X8)).alloc (.cells #[.int .i64 0, .int .i64 0, .bool false, .string ⟨#[]⟩] 57))
                    have HNew := hide (SlAt.one X8 4 [.int .i64 0, .int .i64 0, .bool false, .string ⟨#[]⟩] 57)
                    go_wp2_with (at_builtin; go_loud (refine wpList_append_sl rfl (.tmp 78) (.tmp 80) 45 rfl eiV4 (base := g12 + 1) (xs := (toRow d.vss (fr.take j) k).map Val.cells) rfl HOW.out (vals_fit _) (ys := [[.int .i64 0, .int .i64 0, .bool false, .string ⟨#[]⟩]]) rfl (by simp) HNew.out (vals_fit [Val.zero]) (by rw [HLN3.out]; show (j + 1) * 40 ≤ _; omega) (Nat.le_trans hgwi (fut wi (X8.alloc (.cells #[.int .i64 0, .int .i64 0, .bool false, .string ⟨#[]⟩] 57))).size) (N := j + 1) (by rw [HLN3.out]; rfl) ?_; intro A7 c7 w7 hq1 hq2 hown7 hgr7 hbel7; have H7 := hide hown7; have hz7 := Nat.le_trans (Nat.le_trans hgwi (fut wi (X8.alloc (.cells #[.int .i64 0, .int .i64 0, .bool false, .string ⟨#[]⟩] 57))).size) hbel7.size; have hs7 : Step wo w7 := ⟨(fut wo (X8.alloc (.cells #[.int .i64 0, .int .i64 0, .bool false, .string ⟨#[]⟩] 57))).trans (hbel7.mono (by omega))⟩; have hb3 := ((HC3.out.fut (w' := X8)).alloc (.cells #[.int .i64 0, .int .i64 0, .bool false, .string ⟨#[]⟩] 57)).below hbel7 (by omega); clear k3 lc3; have k3 := At.z1 hb3.at0; have f3 := hb3.free; have lc3 := hb3.lt; have HD3 := hide hb3; clear hown7 hgr7 hbel7 hb3))
                    go_roundw
                    case rel =>
                      refine ⟨j + 1, A7, c7, by omega, by go_num, by simpa using HD3.out.set_ 0 (.slice A7 (j + 1) c7), ?_, by simp [World.setCell]; exact hz7, ⟨hs7.below.setCell (by simp; omega) _⟩⟩
                      rw [HTK.out]
                      exact H7.out.set_other HD3.out (by decide) 0 _
                    case measure => simp [intOf]; omega
                  · have f0 := At.l1 (hc4 j [.int .i64 (a : Int)] (by simp [intCells, hfa]))
                    simp only [Nat.mul_one] at f0
                    obtain ⟨b5, off5, hA5, hb5, ra, hra, hri, q0⟩ := hd.vals.row (w' := wi.alloc (.cells #[.int .i64 0, .int .i64 0, .bool false, .string ⟨#[]⟩] 57)) inferInstance (k := a) (by have := HVC.out; simp [DatA.vss] at this; omega)
                    have hvk : d.vss[a]? = some ra.vs := by simp [DatA.vss, hra]
                    obtain ⟨hrl, _, _⟩ := colsB_len HCB.out a d.cols[a] ra.vs (List.getElem?_eq_getElem hac) hvk
                    have hrl2 : ra.vs.length = R := by have := HRR.out; omega
                    have hcapr := hri.hcap; have hcapmr := hri.hcapm
                    obtain ⟨b7, off7, hA7, hb7, hc7⟩ := hri.at_.elem (w' := wi.alloc (.cells #[.int .i64 0, .int .i64 0, .bool false, .string ⟨#[]⟩] 57)) inferInstance (k := k) (by rw [List.length_map]; omega)
                    obtain ⟨v, hv⟩ : ∃ v, ra.vs[k]? = some v := ⟨_, List.getElem?_eq_getElem (by omega)⟩
                    obtain ⟨v0, v1, v2, v3⟩ := At.l4 (hc7 k v.cells (by simp [hv]))
                    have HTK : Hid ((toRow d.vss (fr.take (j + 1)) k).map Val.cells = (toRow d.vss (fr.take j) k).map Val.cells ++ [[.int .i64 (kindV v), .int .i64 (clean v).i, .bool (clean v).b, .string (clean v).s]]) := by
                      show _ = _
                      rw [toRow_succ hfa, List.map_append, List.map_singleton, ← box_cells, toCell, if_pos (by omega), Int.toNat_natCast]
                      simp only [List.getD_eq_getElem?_getD, hvk, hv, Option.getD_some]
                    have PV := hide (plain_ag v)
                    have ha0 : (0 : Int) ≤ (a : Int) := by omega
                    have hal : (a : Int) < (d.vals.length : Int) := by have := HVC.out; simp [DatA.vss] at this; omega
                    have hkl2 : (k : Int) < (ra.vs.length : Int) := by omega
                    have l5 : b5 < wi.heap.size := by omega
                    have l7 : b7 < wi.heap.size := by omega
                    have hy := HDW.out.fut (w' := wi.alloc (.cells #[.int .i64 0, .int .i64 0, .bool false, .string ⟨#[]⟩] 57))
                    rw [hA5] at hy
                    rw [hA7] at q0
                    obtain ⟨y0, y1, y2⟩ := At.z3 hy.at0
                    have ly : w.heap.size + 1 < wi.heap.size := by omega
                    clear hc4 hfa hA4 hc7 hv hvk hra hy
                    have HA5 := hide hA5; have HA7 := hide hA7
                    clear hA5 hA7
                    go_upto_region 23 with (go_at_call 22; (with_reducible refine (PV.out _).mono ?_); rintro e w6 ⟨rfl, hs6⟩; have bx := (HVB.out.fut (w' := w6)); obtain ⟨x0, x1, x2, x3⟩ := At.z4 bx.at0; have fx := bx.free; have lx := bx.lt; clear bx)
                    have HVB6 : Hid (Blk ((((w6.setCell ⟨wi.heap.size, 0, none⟩ (.int .i64 (kindV v))).setCell ⟨wi.heap.size, 1, none⟩ (.int .i64 (clean v).i)).setCell ⟨wi.heap.size, 2, none⟩ (.bool (clean v).b)).setCell ⟨wi.heap.size, 3, none⟩ (.string (clean v).s)) wi.heap.size 57 [.int .i64 (kindV v), .int .i64 (clean v).i, .bool (clean v).b, .string (clean v).s]) := by
                      have := (((HVB.out.fut (w' := w6)).set_ 0 (.int .i64 (kindV v))).set_ 1 (.int .i64 (clean v).i)).set_ 2 (.bool (clean v).b) |>.set_ 3 (.string (clean v).s)
                      exact this
                    have F8 : Step wi ((((w6.setCell ⟨wi.heap.size, 0, none⟩ (.int .i64 (kindV v))).setCell ⟨wi.heap.size, 1, none⟩ (.int .i64 (clean v).i)).setCell ⟨wi.heap.size, 2, none⟩ (.bool (clean v).b)).setCell ⟨wi.heap.size, 3, none⟩ (.string (clean v).s)) := Step.of
                    obtain ⟨X8, hX8⟩ : ∃ x : World, x = ((((w6.setCell ⟨wi.heap.size, 0, none⟩ (.int .i64 (kindV v))).setCell ⟨wi.heap.size, 1, none⟩ (.int .i64 (clean v).i)).setCell ⟨wi.heap.size, 2, none⟩ (.bool (clean v).b)).setCell ⟨wi.heap.size, 3, none⟩ (.string (clean v).s)) := ⟨_, rfl⟩
                    clear HVB
                    have HVB := HVB6
                    clear HVB6 x0 x1 x2 x3 fx lx v0 v1 v2 v3 f0 l4 l5 l7 y0 y1 y2 ly q0
                    rw [← hX8] at HVB F8
                    rw [← hX8]
                    clear hX8
                    obtain ⟨x0, x1, x2, x3⟩ := At.z4 HVB.out.at0
                    have lx := HVB.out.lt
                    have hc_ := HC3.out.fut (w' := X8)
                    have k3 := At.z1 hc_.at0; have lc3 := hc_.lt
                    clear hc_
                    have z8 := F8.size
                    have HOW := hide ((HO3.out.fut (w' := X8)).alloc (.cells #[.int .i64 (kindV v), .int .i64 (clean v).i, .bool (clean v).b, .string (clean v).s] 57))
                    have HNew := hide (SlAt.one X8 4 [.int .i64 (kindV v), .int .i64 (clean v).i, .bool (clean v).b, .string (clean v).s] 57)
                    go_wp2_with (at_builtin; go_loud (refine wpList_append_sl rfl (.tmp 78) (.tmp 80) 45 rfl eiV4 (base := g12 + 1) (xs := (toRow d.vss (fr.take j) k).map Val.cells) rfl HOW.out (vals_fit _) (ys := [[.int .i64 (kindV v), .int .i64 (clean v).i, .bool (clean v).b, .string (clean v).s]]) rfl (by simp) HNew.out (box_fit v) (by rw [HLN3.out]; show (j + 1) * 40 ≤ _; omega) (Nat.le_trans hgwi (fut wi (X8.alloc (.cells #[.int .i64 (kindV v), .int .i64 (clean v).i, .bool (clean v).b, .string (clean v).s] 57))).size) (N := j + 1) (by rw [HLN3.out]; rfl) ?_; intro A7 c7 w7 hq1 hq2 hown7 hgr7 hbel7; have H7 := hide hown7; have hz7 := Nat.le_trans (Nat.le_trans hgwi (fut wi (X8.alloc (.cells #[.int .i64 (kindV v), .int .i64 (clean v).i, .bool (clean v).b, .string (clean v).s] 57))).size) hbel7.size; have hs7 : Step wo w7 := ⟨(fut wo (X8.alloc (.cells #[.int .i64 (kindV v), .int .i64 (clean v).i, .bool (clean v).b, .string (clean v).s] 57))).trans (hbel7.mono (by omega))⟩; have hb3 := ((HC3.out.fut (w' := X8)).alloc (.cells #[.int .i64 (kindV v), .int .i64 (clean v).i, .bool (clean v).b, .string (clean v).s] 57)).below hbel7 (by omega); clear k3 lc3; have k3 := At.z1 hb3.at0; have f3 := hb3.free; have lc3 := hb3.lt; have HD3 := hide hb3; clear hown7 hgr7 hbel7 hb3))
                    go_roundw
                    case rel =>
                      refine ⟨j + 1, A7, c7, by omega, by go_num, by simpa using HD3.out.set_ 0 (.slice A7 (j + 1) c7), ?_, by simp [World.setCell]; exact hz7, ⟨hs7.below.setCell (by simp; omega) _⟩⟩
                      rw [HTK.out]
                      exact H7.out.set_other HD3.out (by decide) 0 _
                    case measure => simp [intOf]; omega
                · obtain rfl : j = s.cols.length := by omega
                  have HVS : Hid (toRow d.vss (fr.take s.cols.length) k = toRow d.vss fr k) := by show _ = _; rw [← HFL.out, List.take_length]
                  rw [HVS.out] at HO3
                  have HVL : Hid ((toRow d.vss fr k).length = s.cols.length) := by show _ = _; rw [toRow_len, HFL.out]
                  have k3 := At.z1 HC3.out.at0; have lc3 := HC3.out.lt
                  have HOW := hide ((HR2.out.out.fut (w' := wi)).alloc (.cells #[.slice A3 s.cols.length c3] 48))
                  have HNew := hide (SlAt.one wi 1 [.slice A3 s.cols.length c3] 48)
                  go_wp2_with (at_builtin; go_loud (refine wpList_append_sl rfl (.tmp 84) (.tmp 86) 25 rfl eiRow (base := X.heap.size) (xs := os.map RowA.cells) rfl HOW.out (rows_fit _) (ys := [[.slice A3 s.cols.length c3]]) rfl (by simp) HNew.out (slice_fit' A3 s.cols.length c3) (by rw [List.length_map, HOL.out]; show (k + 1) * 24 ≤ _; omega) (fut X (wi.alloc (.cells #[.slice A3 s.cols.length c3] 48))).size (N := k + 1) (by rw [List.length_map, HOL.out]; rfl) ?_; intro A7 c7 w7 hq1 hq2 hown7 hgr7 hbel7; have HR7 := hide (OwnR.app (r := ⟨A3, c3, toRow d.vss fr k⟩) ((HR2.out.fut (w' := wi)).fut (w' := wi.alloc (.cells #[.slice A3 s.cols.length c3] 48))) (own_len' ((HO3.out.more (base' := X.heap.size) (by omega)).alloc (.cells #[.slice A3 s.cols.length c3] 48)) HVL.out) (row_cells' hown7 HVL.out) hgr7); have HB7 := hide hbel7; clear hown7 hgr7 hbel7))
                  go_roundw
                  case rel => exact ⟨k + 1, A7, c7, os ++ [⟨A3, c3, toRow d.vss fr k⟩], by omega, by go_num, rfl, by show _ = _; rw [List.range_succ, List.map_append, List.map_append, HOS.out]; rfl, by show _ = _; rw [List.length_append, HOL.out]; rfl, HR7.out, ⟨(fut X (wi.alloc (.cells #[.slice A3 s.cols.length c3] 48))).trans HB7.out⟩⟩
                  case measure => simp [intOf]; omega
            · obtain rfl : k = R := by omega
              have hE : Hid (T = ((List.range k).map (toRow d.vss fr), 0)) := by show _ = _; rw [HRT.out, HRR.out, Int.toNat_natCast]
              go_wp2_with fail
              go_ret2
              exact ⟨A2, c2, os, by rw [hE.out]; exact HOS.out, by rw [hE.out, HOL.out]; rfl, by rw [HOL.out]; exact ⟨HR2.out.out.more hzA, fun r hr => (HR2.out.rows r hr).more hzA⟩, Step.of⟩
end Go.Proofs.YtinpnginjpfbpaaDoor
