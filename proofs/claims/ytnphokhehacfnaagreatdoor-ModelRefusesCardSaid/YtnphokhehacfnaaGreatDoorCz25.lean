/-
  Texts put together: Dv, Xa, Xg, Dy, Xb.
-/
import Derived.Test.YtnphokhehacfnaaGreatDoorCz01
import Derived.Test.YtnphokhehacfnaaGreatDoorCz07
import Derived.Test.YtnphokhehacfnaaGreatDoorCz08
import Derived.Test.YtnphokhehacfnaaGreatDoorCz22
import Derived.Test.YtnphokhehacfnaaGreatDoorCz23
namespace Go.Proofs.YtnphokhehacfnaaGreatDoor
open Go.RowKit

/-- A table with other rows. -/
def TbA.with_ (t : TbA) (rs : List RowA) : TbA := ⟨t.s, t.As, t.cs, t.sid, t.fs, t.Af, t.cf, rs, t.Ar, t.cr⟩
theorem Mt.row {w w1 : World} {g T n c : Nat} {A : Option Addr} {l : List (List Value)} (hr : Own w g 36 4 (.slice A n c) l) (hg : w.grownBy w1 (Value.slice A n c).ownBlock) (hgw : g ≤ w.heap.size) : Mt g T w w1 :=
  ⟨below_of_grown hr hg hgw, fun _ _ _ _ h2 _ hb' => hb'.grown hg (hr.ne_ hb' (fun hh => h2 hh.symm))⟩
/-- A row's slice is put anew. -/
theorem Doer.setRow {w w1 : World} {g D T O : Nat} {t : TbA} {o : OpA} (h : Doer w g D T O t o) {k : Nat} {r r' : RowA} (hk : t.rs[k]? = some r) (hgw : g ≤ w.heap.size)
    (hg : w.grownBy w1 (ob r.A)) (hr' : Own w1 g 36 4 (.slice r'.A r'.vs.length r'.cap) (r'.vs.map Val.cells)) (hob : ob r'.A = ob r.A ∨ ∃ q, ob r'.A = some q ∧ w.heap.size ≤ q) {gR : Nat} (hAr : t.Ar = some ⟨gR, 0, none⟩) :
    Doer (w1.setCell ⟨gR, k, none⟩ (.slice r'.A r'.vs.length r'.cap)) g D T O (t.with_ (t.rs.set k r')) o ∧ Mt g T w (w1.setCell ⟨gR, k, none⟩ (.slice r'.A r'.vs.length r'.cap)) := by
  have hrow := h.own.rows.rows.out
  have hr := h.own.rows.rows.rows r (List.mem_of_getElem? hk)
  have hg' : w.grownBy w1 (Value.slice r.A r.vs.length r.cap).ownBlock := by rw [ob_eq]; exact hg
  have d1 := h.d.grown hg' (hr.ne_ h.d (by decide))
  have t1 := h.tb.grown hg' (hr.ne_ h.tb (by decide))
  have o1 := h.op.grown hg' (hr.ne_ h.op (by decide))
  have c1 := h.own.cols.grown_other hg' fun q hq hh => own_ne hr h.own.cols (by decide) q hh hq
  have f1 := h.own.flds.grown_other hg' fun q hq hh => own_ne hr h.own.flds (by decide) q hh hq
  have r1 := hrow.grown_other hg' fun q hq hh => own_ne hr hrow (by decide) q hh hq
  have hl : 0 < (t.rs.map RowA.cells).length := by have := (List.getElem?_eq_some_iff.1 hk).1; simp; omega
  obtain ⟨gR2, cur, e2, _, hgR, hb, _⟩ := r1.blk hl
  rw [hAr] at e2
  injection e2 with e2
  injection e2 with e2
  subst e2
  have hrows := h.own.rows
  rw [hAr] at hrows
  have hs := hrows.setRow hk hg hr' hob
  refine ⟨⟨d1.far (p := ⟨gR, k, none⟩) (d1.ne_ hb (by decide)) _, ?_, o1.far (p := ⟨gR, k, none⟩) (o1.ne_ hb (by decide)) _, ⟨c1.set_other hb (by decide) k _, h.own.ccap, f1.set_other hb (by decide) k _, ?_⟩, h.gT⟩, (Mt.row hr hg' hgw).trans (Mt.grown hgR hb (Or.inr rfl) (grown_setCell w1 gR k _))⟩
  · have := t1.far (p := ⟨gR, k, none⟩) (t1.ne_ hb (by decide)) (.slice r'.A r'.vs.length r'.cap)
    unfold TbA.cells TbA.with_ at *
    simp only [List.length_set]
    exact this
  · show OwnD _ _ t.Ar (t.rs.set k _).length _ _
    rw [List.length_set, hAr]
    exact hs
theorem map_set_modify {rs : List RowA} {k : Nat} {r : RowA} {f : List Val → List Val} {A : Option Addr} {c : Nat} (hk : rs[k]? = some r) : (rs.set k ⟨A, c, f r.vs⟩).map RowA.vs = (rs.map RowA.vs).modify k f := by
  apply List.ext_getElem?
  intro i
  have hkl := (List.getElem?_eq_some_iff.1 hk).1
  rw [List.getElem?_map, List.getElem?_set, List.getElem?_modify, List.getElem?_map]
  by_cases e : k = i
  · subst e
    have h2 := (List.getElem?_eq_some_iff.1 hk).2
    simp [hkl, h2]
  · simp [e]
end Go.Proofs.YtnphokhehacfnaaGreatDoor

namespace Go.Proofs.YtnphokhehacfnaaGreatDoor
open Go.RowKit

/-- What an update does behind its form and its predicate. -/
def updC (s : Sch) (sid : Int) (fs : List Fld) (rows : List (List Val)) (col : ByteArray) (v : Val) (l : List Int) : Except Int Tb :=
  if idx (named col) s.cols < 0 then .error 5
  else if wholeB (s.cols.getD (s.cols.findIdx (named col)) ⟨0, .empty, 0⟩).kind v = false then .error 5
  else .ok ⟨s, sid, fs, setRows rows (s.cols.findIdx (named col)) v l⟩
theorem upd_eq (t : Tb) (o : Opp) : updateP t o = if predB o.ns = false ∨ valueB o.v = false then .error 9 else match yesP t o.ns with | .error c => .error c | .ok l => updC t.s t.sid t.fs t.rows o.col o.v l := by
  unfold updateP updC
  cases yesP t o.ns <;> rfl
end Go.Proofs.YtnphokhehacfnaaGreatDoor

namespace Go.Proofs.YtnphokhehacfnaaGreatDoor
open Go.RowKit

theorem upd_err {t : Tb} {o : Opp} {c : Int} (h : updateP t o = .error c) : c ≠ 0 := by
  rw [upd_eq] at h
  split at h
  · injection h with h; omega
  · split at h
    · rename_i hq
      injection h with h
      unfold yesP at hq
      split at hq
      · injection hq with hq; omega
      · cases hq
    · unfold updC at h
      split at h
      · injection h with h; omega
      · split at h
        · injection h with h; omega
        · cases h
theorem rowW_len {cols : List Col} {vs : List Val} (h : rowW cols vs = true) : vs.length = cols.length := by
  unfold rowW at h
  rw [Bool.and_eq_true, beq_iff_eq] at h
  exact h.1
theorem tb_rows {t : TbA} (h : tabB t.tb = true) : (∀ r ∈ t.rs, r.vs.length = t.s.cols.length) ∧ 1 ≤ t.s.cols.length ∧ t.s.cols.length ≤ 12 ∧ t.rs.length ≤ 4096 ∧ 0 ≤ t.sid ∧ t.sid ≤ 2147483647 := by
  obtain ⟨hm, hs, hl, hr⟩ := tabB_iff.1 h
  have hd := mayB_head hm
  refine ⟨fun r hrm => rowW_len (List.all_eq_true.1 hr r.vs (List.mem_map_of_mem hrm)), hd.2.2.1, hd.2.2.2.1, by simpa [TbA.tb] using hl, ?_⟩
  unfold specB at hs
  rw [Bool.and_eq_true, Bool.and_eq_true, Bool.and_eq_true, decide_eq_true_iff, decide_eq_true_iff] at hs
  exact ⟨hs.2.1, hs.2.2.1⟩
end Go.Proofs.YtnphokhehacfnaaGreatDoor

namespace Go.Proofs.YtnphokhehacfnaaGreatDoor
open Go.RowKit

set_option maxRecDepth 10000 in
set_option maxHeartbeats 1000000 in
theorem deleteV_any (g cap k n : Nat) (cur : List Value) (cols : List Val) (w : World) (hg : Blk w g 36 cur) (hm : cols.length = n) (hk : k < n) (hcap : n ≤ cap) (hcm : cap ≤ 9223372036854775807)
    (hcur : cur.length = cap * 4) (htake : cur.take (n * 4) = (cols.map Val.cells).flatten) :
    Calls Tryz.prog 145 #[.slice (some ⟨g, 0, none⟩) n cap, .int .i64 k, .int .i64 (k + 1)] w fun e w' =>
      e = .returned (.slice (some ⟨g, 0, none⟩) (n - 1) cap) ∧ (∃ cur', Blk w' g 36 cur' ∧ cur'.length = cap * 4 ∧ cur'.take ((n - 1) * 4) = ((cols.eraseIdx k).map Val.cells).flatten) ∧ w.grownBy w' (some g) := by
  have HMM := hide hm
  obtain ⟨A, hA, hr⟩ : ∃ A : Option Addr, (if cap = k + 1 then some (⟨g, 0, none⟩ : Addr) else some ⟨g, (k + 1) * 4, none⟩) = A ∧ Hid (SlAt w.drew w.drew.heap.size 4 A ((cols.drop (k + 1)).map Val.cells)) := by
    refine ⟨_, rfl, fun hl => ?_⟩
    have hl' : k + 1 < cols.length := by simp at hl; omega
    rw [if_neg (by omega)]
    refine ⟨g, (k + 1) * 4, rfl, hg.lt, fun i cs hi => ?_⟩
    have h1 := At.of_flatten (off := 0) (vals_fit cols).len (At.of_take hg.at0 htake) (k + 1 + i) cs (by simpa using hi)
    rw [Nat.zero_add, Nat.add_mul] at h1
    exact h1
  have hdl : n - (k + 1) = ((cols.drop (k + 1)).map Val.cells).length := by simp [hm]
  have HR : Hid (k + ((cols.drop (k + 1)).map Val.cells).length ≤ cap) := by show _ ≤ _; rw [← hdl]; omega
  have HM := hide hdl; clear hdl
  have HT := hide htake; clear htake
  have HCU := hide hcur; clear hcur hm
  have hwr : IntKind.i64.wrap ((k : Int) + 1) = (k : Int) + 1 := by rw [IntKind.wrap_i64]; omega
  have hp0 : (0 : Int) ≤ (k : Int) + 1 := by omega
  have hp1 : (k : Int) + 1 ≤ (n : Int) := by omega
  have hp2 : ((k : Int) + 1).toNat = k + 1 := by omega
  have hp3 : k ≤ cap := by omega
  go_enter Tryz.func145, Tryz.ntmps145
  go_wp2
  go_region_law (refine step_append_row rfl (.tmp 22) (.tmp 25) 65 rfl eiV4 (g := g) (n := k) (cap := cap) (cur := cur) ?hs1 hg.drew (A := A) (c := cap - (k + 1)) (ys := (cols.drop (k + 1)).map Val.cells) (m := n - (k + 1)) ?hs2 HM.out hr.out (vals_fit _) HR.out HCU.out ?_; (case hs1 => simp [Act.eval, Act.put]); (case hs2 => simp [Act.eval, Act.put]); intro w1 hg1 hgr1)
  clear hwr hp0 hp1 hp2 hA
  have hlen1 : (cur.take (k * 4) ++ ((cols.drop (k + 1)).map Val.cells).flatten ++ cur.drop (k * 4 + ((cols.drop (k + 1)).map Val.cells).flatten.length)).length = cap * 4 := by
    have h1 : ((cols.drop (k + 1)).map Val.cells).flatten.length = (n - 1 - k) * 4 := by rw [flatten_length (vals_fit _).len, ← HM.out]; congr 1; omega
    simp only [List.length_append, List.length_take, List.length_drop, h1, HCU.out]
    omega
  obtain ⟨w2, hrun, hg2, hgr2⟩ := run_clear_row (P := Tryz.prog) (t := 65) (e := 36) (ty := 0) (z := .agg #[.int .i64 0, .int .i64 0, .bool false, .string .empty]) (size := 4) Tryz.underlying65 (fun _ => by kernel_rfl) rfl (by
    intro u hu
    simp [Value.cells] at hu
    rcases hu with rfl | rfl | rfl | rfl <;> rfl) (g := g) (o := (n - 1) * 4) (c := cap - (n - 1)) hg1 (by rw [hlen1]; omega)
  have hsum : k + (n - (k + 1)) = n - 1 := by omega
  have hone : n - (n - 1) = 1 := by omega
  have hne : ¬ cap = n - 1 := by omega
  go_wp2_with fail
  go_ret
  have hF : ((cols.drop (k + 1)).map Val.cells).flatten.length = (n - 1 - k) * 4 := by rw [flatten_length (vals_fit _).len, ← HM.out]; congr 1; omega
  have hk3 : (cur.take (k * 4)).length = k * 4 := by rw [List.length_take, HCU.out]; omega
  refine ⟨rfl, ⟨_, hg2, ?_, ?_⟩, ?_⟩
  · simp only [List.length_append, List.length_take, List.length_drop, hF, HCU.out, Value.cells]
    simp
    omega
  · have e1 : ((n - 1) * 4) = (cur.take (k * 4)).length + ((cols.drop (k + 1)).map Val.cells).flatten.length := by rw [hk3, hF]; omega
    rw [List.append_assoc, List.take_append_of_le_length (by rw [List.length_take, hlen1]; omega), List.take_take, Nat.min_self, take_app3 _ _ _ _ e1]
    have e3 : cur.take (k * 4) = ((cols.map Val.cells).take k).flatten := by
      rw [← flatten_take (vals_fit cols).len, ← HT.out, List.take_take]
      congr 1
      omega
    rw [e3, List.eraseIdx_eq_take_drop_succ, List.map_append, List.flatten_append, List.map_take]
  · exact World.grownBy.trans ⟨hgr1.os, hgr1.tape, hgr1.output, hgr1.size, hgr1.block⟩ hgr2
end Go.Proofs.YtnphokhehacfnaaGreatDoor

namespace Go.Proofs.YtnphokhehacfnaaGreatDoor
open Go.RowKit

set_option maxRecDepth 100000 in
set_option maxHeartbeats 4000000 in
theorem dropF_any (b : Nat) (et : TypeId) (id s tr p : Int) (w : World) (hb : Blk w b et [.int .i64 id]) : Calls Tryz.prog 143 #[.agg #[.int .i64 s, .int .i64 tr, .int .i64 p], .pointer (some ⟨b, 0, none⟩)] w fun e w' => e = .returned (.bool (s == id)) ∧ Step w w' := by
  obtain ⟨W, hW⟩ : ∃ W, W = w.alloc (.cells #[.int .i64 s, .int .i64 tr, .int .i64 p] 92) := ⟨_, rfl⟩
  have SW : Step w W := by rw [hW]; exact Step.of
  have HB : Hid (Blk W w.heap.size 92 [.int .i64 s, .int .i64 tr, .int .i64 p]) := by rw [hW]; exact Blk.new w _ _
  obtain ⟨x0, x1, x2⟩ := At.z3 HB.out.at0
  have lx := HB.out.lt
  have hb2 := hb.fut (w' := W)
  have q0 := At.z1 hb2.at0
  have lb := hb2.lt
  clear hb hb2
  go_enter Tryz.func143, Tryz.ntmps143
  go_upto_region 1 with fail
  rw [← hW]
  clear hW
  go_wp2_with fail
  go_ret
  exact ⟨rfl, Step.of⟩
def mapTo (f : List Val → List Val) (k : Nat) (vss : List (List Val)) : List (List Val) := vss.mapIdx fun i v => if i < k then f v else v
theorem mapTo_get (f : List Val → List Val) (k : Nat) (vss : List (List Val)) (i : Nat) : (mapTo f k vss)[i]? = (vss[i]?).map fun v => if i < k then f v else v := by rw [mapTo, List.getElem?_mapIdx]
theorem mapTo_zero (f : List Val → List Val) (vss : List (List Val)) : mapTo f 0 vss = vss := by
  apply List.ext_getElem?
  intro i
  rw [mapTo_get]
  cases vss[i]? <;> simp
theorem mapTo_all (f : List Val → List Val) (vss : List (List Val)) : mapTo f vss.length vss = vss.map f := by
  apply List.ext_getElem?
  intro i
  rw [mapTo_get, List.getElem?_map]
  cases h : vss[i]? with
  | none => rfl
  | some v => simp [(List.getElem?_eq_some_iff.1 h).1]
theorem mapTo_step (f : List Val → List Val) (k : Nat) (vss : List (List Val)) : (mapTo f k vss).modify k f = mapTo f (k + 1) vss := by
  apply List.ext_getElem?
  intro i
  rw [List.getElem?_modify, mapTo_get, mapTo_get]
  cases vss[i]? with
  | none => rfl
  | some v =>
    by_cases e : k = i
    · subst e; simp
    · by_cases h : i < k
      · simp [e, h, show i < k + 1 by omega]
      · simp [e, h, show ¬ i < k + 1 by omega]
theorem dropP_go {t : Tb} {o : Opp} {xn : Nat} {c : Col} (hi : ¬ idx (named o.col) t.s.cols < 0) (hx : t.s.cols.findIdx (named o.col) = xn) (hc : t.s.cols[xn]? = some c) :
    dropP t o = if t.fs.any (fun f => f.source == c.id) = true then .error 5 else if (dropR t.s o.col).2 ≠ 0 then .error 5 else .ok ⟨(dropR t.s o.col).1, t.sid, t.fs, t.rows.map (·.eraseIdx xn)⟩ := by
  rw [dropP, if_neg hi, hx, List.getD_eq_getElem?_getD, hc]
  show (if t.fs.any (fun f => f.source == c.id) = true then _ else _) = _
  split
  · rfl
  · unfold shapeP
    by_cases h : (dropR t.s o.col).2 ≠ 0
    · rw [if_pos h, if_pos h]
    · rw [if_neg h, if_neg h]
set_option maxRecDepth 100000 in
set_option maxHeartbeats 16000000 in
theorem drop_go (g D T O : Nat) (t : TbA) (o : OpA) (w : World) (h : Doer w g D T O t o) (hf : TbFine t) (hg : g ≤ w.heap.size) (hn12 : t.s.cols.length ≤ 12) (hn4 : t.rs.length ≤ 4096) (hrow : ∀ r ∈ t.rs, r.vs.length = t.s.cols.length) (hi : ¬ idx (named o.col) t.s.cols < 0) :
    Calls Tryz.prog 92 #[.pointer (some ⟨D, 0, none⟩)] w fun e w' => RunR g T w (dropP t.tb o.op) e w' := by
  have hin := h.own.r.tin hf
  have HSC := hide hin.sch; have HFL := hide hin.flds
  have HD := hide h
  have HROW := hide hrow
  obtain ⟨y1, hxl⟩ := idx_yes (p := named o.col) (l := t.s.cols) (by omega)
  obtain ⟨xn, hx⟩ : ∃ xn, t.s.cols.findIdx (named o.col) = xn := ⟨_, rfl⟩
  rw [hx] at y1 hxl
  obtain ⟨c, hc⟩ : ∃ c, t.s.cols[xn]? = some c := ⟨_, List.getElem?_eq_getElem hxl⟩
  obtain ⟨R, hR⟩ : ∃ R, dropP t.tb o.op = R := ⟨_, rfl⟩
  have HR : Hid ((if t.fs.any (fun f => f.source == c.id) = true then .error 5 else if (dropR t.s o.col).2 ≠ 0 then .error 5 else .ok ⟨(dropR t.s o.col).1, t.sid, t.fs, (t.rs.map RowA.vs).map (·.eraseIdx xn)⟩) = R) := by
    show _ = _
    rw [← hR]
    exact (dropP_go (t := t.tb) (o := o.op) hi hx hc).symm
  rw [hR]
  clear hR
  have FD : Hid (∀ (w' : World), Fut w w' → Calls Tryz.prog 125 #[.agg #[.int .i64 t.s.id, .slice t.As t.s.cols.length t.cs, .int .i64 t.s.next], .string o.col] w' fun e w'' => e = .returned (.int .i64 (xn : Int)) ∧ Step w' w'') := fun w' hq => by
    have := ((HSC.out.below hq.below).find o.col)
    rw [y1] at this
    exact this.mono fun e w'' h => ⟨h.1, ⟨h.2⟩⟩
  have hfl := hf.flen
  have CF0 := fun {wa : World} {b : Nat} (hb : Blk wa b 3 [.int .i64 c.id]) (w' : World) (hq : Fut w w') (hq2 : Fut wa w') => containsFuncFld_any (w0 := w) 143 #[.pointer (some ⟨b, 0, none⟩)] (fun f => f.source == c.id) t.Af t.cf t.fs w' (by omega) HFL.out.at_ (fun args w => by kernel_rfl) (fun f _ w'' hq3 => dropF_any b 3 c.id f.source f.trans f.param w'' (haveI : Fut wa w'' := Fut.tr hq2 hq3; hb.fut))
  obtain ⟨s2, hs2⟩ : ∃ s2, (dropR t.s o.col).1 = s2 := ⟨_, rfl⟩
  obtain ⟨x2, hx2⟩ : ∃ x2, (dropR t.s o.col).2 = x2 := ⟨_, rfl⟩
  have DR : Hid (∀ (w' : World), Fut w w' → Calls Tryz.prog 144 #[.agg #[.int .i64 t.s.id, .slice t.As t.s.cols.length t.cs, .int .i64 t.s.next], .string o.col] w' fun e w'' => ∃ (A' : Option Addr) (c' : Nat), e = .returned (.tuple #[.agg #[.int .i64 s2.id, .slice A' s2.cols.length c', .int .i64 s2.next], .int .i64 x2]) ∧ s2.cols.length ≤ c' ∧ Own w'' w'.heap.size 90 3 (.slice A' s2.cols.length c') (s2.cols.map Col.cells) ∧ Step w' w'') := fun w' hq => by
    have := drop_any t.s t.As t.cs o.col w' (HSC.out.below hq.below)
    unfold SchRes Sch.val at this
    rw [hs2, hx2] at this
    exact this.mono fun e w'' ⟨A', c', h1, h2, _, h3, h4⟩ => ⟨A', c', h1, h2, h3, ⟨h4⟩⟩
  rw [hs2, hx2] at HR
  clear hs2 hx2 h y1 hfl
  obtain ⟨d0, d1⟩ := At.z2 (HD.out.d.fut (w' := w)).at0
  have ld := (HD.out.d.fut (w' := w)).lt
  obtain ⟨t0, t1, t2, t3, t4, t5⟩ := At.z6 (HD.out.tb.fut (w' := w)).at0
  have lt_ := (HD.out.tb.fut (w' := w)).lt
  have ft_ := (HD.out.tb.fut (w' := w)).free
  obtain ⟨o0, o1, o2, o3, o4, o5, o6, o7, o8, o9, o10, o11, o12, o13, o14, o15⟩ := At.zOp (HD.out.op.fut (w' := w)).at0
  have lo := (HD.out.op.fut (w' := w)).lt
  unfold TbA.cells at *
  have hxd : decide ((xn : Int) < 0) = false := decide_eq_false (by omega)
  go_enter Tryz.func92, Tryz.ntmps92
  go_upto_region 0 with fail
  refine wp_region_held_drew (S := (fun w' => Step w w' ∧ (∀ b o, b < w.heap.size → w'.cell? ⟨b, o, none⟩ = w.cell? ⟨b, o, none⟩))) (by kernel_rfl) (by (try dsimp only); (first | exact ⟨hS1, hS2⟩ | exact ⟨Step.of, (bcell (fut _ _)).1⟩)) (fun hHeld => ?_)
  refine wT 0 5 (by assumption) ?_
  refine wT 7 12 (by assumption) ?_
  refine wT 1 6 (by assumption) ?_
  refine wT 8 13 (by assumption) ?_
  refine wT 2 7 (by assumption) ?_
  refine wT 9 14 (by assumption) ?_
  refine wT 3 8 (by assumption) ?_
  refine wT 10 15 (by assumption) ?_
  refine wT 4 9 (by assumption) ?_
  refine wT 11 16 (by assumption) ?_
  refine wT 5 10 (by assumption) ?_
  refine wT 12 17 (by assumption) ?_
  refine wT 6 11 (by assumption) ?_
  refine wT 13 18 (by assumption) ?_
  refine wpAnyH_ready (rs := [14]) (by kernel_rfl) (by simp) ?_
  refine AllReadyH.cons (o := ⟨some 19, _, _, _, _, _⟩) rfl (fun K hK => ?_) AllReadyH.nil
  obtain ⟨hS1, hS2⟩ := hHeld
  go_simp
  (go_at_call 125; (with_reducible refine (FD.out _ inferInstance).mono ?_); rintro e w3 ⟨rfl, hs3⟩)
  refine hK.out _ _ (by (try dsimp only); (first | exact ⟨hS1, hS2⟩ | exact ⟨Step.of, (bcell (fut _ _)).1⟩)) (fun hHeld => ?_)
  clear hK K
  (try simp only [Act.put, List.setIfInBounds_toArray, List.set_cons_zero, List.set_cons_succ])
  refine wT 15 2 (by assumption) ?_
  refine wpAnyH_done (by kernel_rfl) ?_ _
  clear d0 d1 ld t0 t1 t2 t3 t4 t5 lt_ ft_ o0 o1 o2 o3 o4 o5 o6 o7 o8 o9 o10 o11 o12 o13 o14 o15 lo
  obtain ⟨wp, hwp⟩ : ∃ x : World, x = w3 := ⟨_, rfl⟩
  rw [← hwp] at hs3 ⊢
  clear hwp
  go_upto_region 2 with (go_at_call 122; (with_reducible refine (throw_no _ _).mono ?_); rintro e w9 ⟨rfl, h9⟩; obtain rfl := h9.symm)
  obtain ⟨d0, d1⟩ := At.z2 (HD.out.d.fut (w' := wp)).at0
  have ld := (HD.out.d.fut (w' := wp)).lt
  obtain ⟨t0, t1, t2, t3, t4, t5⟩ := At.z6 (HD.out.tb.fut (w' := wp)).at0
  have lt_ := (HD.out.tb.fut (w' := wp)).lt
  have ft_ := (HD.out.tb.fut (w' := wp)).free
  obtain ⟨o0, o1, o2, o3, o4, o5, o6, o7, o8, o9, o10, o11, o12, o13, o14, o15⟩ := At.zOp (HD.out.op.fut (w' := wp)).at0
  have lo := (HD.out.op.fut (w' := wp)).lt
  obtain ⟨bc, oc, hAc, hbc, hcc_⟩ := HSC.out.at_.elem (w' := wp) inferInstance (k := xn) (by simpa using hxl)
  obtain ⟨c0, c1, c2_⟩ := At.l3 (hcc_ xn c.cells (by simp [hc]))
  have hbcW : bc < wp.heap.size := by have := (fut w wp).size; omega
  have hx0 : (0 : Int) ≤ (xn : Int) := by omega
  have hxi : (xn : Int) < (t.s.cols.length : Int) := by omega
  rw [hAc] at t1
  have HAC := hide hAc
  clear hAc hcc_ hi
  go_upto_region 3 with fail
  obtain ⟨x3, hx3⟩ : ∃ x : World, x = wp.alloc (.cells #[.int .i64 c.id] 3) := ⟨_, rfl⟩
  have SX3 : Step wp x3 := by rw [hx3]; exact Step.of
  have HIX : Hid (Blk x3 wp.heap.size 3 [.int .i64 c.id]) := by rw [hx3]; exact Blk.new wp [.int .i64 c.id] 3
  rw [← hx3]
  clear hx3 c0 c1 c2_ d0 d1 ld t0 t1 t2 t3 t4 t5 lt_ ft_ o0 o1 o2 o3 o4 o5 o6 o7 o8 o9 o10 o11 o12 o13 o14 o15 lo
  obtain ⟨B, hB⟩ : ∃ B, t.fs.any (fun f => f.source == c.id) = B := ⟨_, rfl⟩
  have CF := CF0 HIX.out
  rw [hB] at CF HR
  have CF := hide CF
  clear CF0 hB
  obtain ⟨d0, d1⟩ := At.z2 (HD.out.d.fut (w' := x3)).at0
  have ld := (HD.out.d.fut (w' := x3)).lt
  obtain ⟨t0, t1, t2, t3, t4, t5⟩ := At.z6 (HD.out.tb.fut (w' := x3)).at0
  have lt_ := (HD.out.tb.fut (w' := x3)).lt
  have ft_ := (HD.out.tb.fut (w' := x3)).free
  obtain ⟨o0, o1, o2, o3, o4, o5, o6, o7, o8, o9, o10, o11, o12, o13, o14, o15⟩ := At.zOp (HD.out.op.fut (w' := x3)).at0
  have lo := (HD.out.op.fut (w' := x3)).lt
  cases B with
  | true =>
    have HE : Hid (R = .error 5) := by show _ = _; rw [← HR.out, if_pos rfl]
    go_wp2_with (first | (go_at_call 107; (with_reducible refine (CF.out _ inferInstance inferInstance).mono ?_); rintro e w4 ⟨rfl, hs4⟩) | (go_at_call 122; (with_reducible refine (throw_yes _ _).mono ?_); rintro e w9 ⟨rfl, h9⟩; obtain rfl := h9.symm))
    exact ⟨rfl, by rw [HE.out]; exact ⟨Mt.step hg (fut w w4), rfl⟩⟩
  | false =>
    have HR1 : Hid ((if x2 ≠ 0 then .error 5 else .ok ⟨s2, t.sid, t.fs, (t.rs.map RowA.vs).map (·.eraseIdx xn)⟩) = R) := (if_neg (show ¬ (false = true) by simp)).symm.trans HR.out
    go_upto_region 4 with (first | (go_at_call 107; (with_reducible refine (CF.out _ inferInstance inferInstance).mono ?_); rintro e w4 ⟨rfl, hs4⟩) | (go_at_call 122; (with_reducible refine (throw_no _ _).mono ?_); rintro e w9 ⟨rfl, h9⟩; obtain rfl := h9.symm))
    clear CF HR d0 d1 ld t0 t1 t2 t3 t4 t5 lt_ ft_ o0 o1 o2 o3 o4 o5 o6 o7 o8 o9 o10 o11 o12 o13 o14 o15 lo
    obtain ⟨x4, hx4⟩ : ∃ x : World, x = w4 := ⟨_, rfl⟩
    rw [← hx4] at hs4 ⊢
    clear hx4
    obtain ⟨d0, d1⟩ := At.z2 (HD.out.d.fut (w' := x4)).at0
    have ld := (HD.out.d.fut (w' := x4)).lt
    obtain ⟨t0, t1, t2, t3, t4, t5⟩ := At.z6 (HD.out.tb.fut (w' := x4)).at0
    have lt_ := (HD.out.tb.fut (w' := x4)).lt
    have ft_ := (HD.out.tb.fut (w' := x4)).free
    obtain ⟨o0, o1, o2, o3, o4, o5, o6, o7, o8, o9, o10, o11, o12, o13, o14, o15⟩ := At.zOp (HD.out.op.fut (w' := x4)).at0
    have lo := (HD.out.op.fut (w' := x4)).lt
    by_cases hz : x2 = 0
    · subst hz
      have HE : Hid (R = .ok ⟨s2, t.sid, t.fs, (t.rs.map RowA.vs).map (·.eraseIdx xn)⟩) := by show _ = _; rw [← HR1.out, if_neg (by simp)]
      have SO : Hid (∀ {A : Option Addr} {c' B : Nat} {w'' : World} (_ : Fut w w'') (_ : Own w'' B 90 3 (.slice A s2.cols.length c') (s2.cols.map Col.cells)) (_ : g ≤ B) (_ : s2.cols.length ≤ c'), Calls Tryz.prog 90 #[.pointer (some ⟨D, 0, none⟩), .agg #[.int .i64 s2.id, .slice A s2.cols.length c', .int .i64 s2.next], .int .i64 0] w'' fun e w' => e = .returned (.tuple #[]) ∧ Doer w' g D T O ⟨s2, A, c', t.sid, t.fs, t.Af, t.cf, t.rs, t.Ar, t.cr⟩ o ∧ Mt g T w'' w') := fun {A c' B w''} hq hO hB hc => shape_ok g D T O t o s2 A c' w'' HD.out.fut (hO.more hB) hc (by have := hq.below.size; omega)
      refine wp_region_held_drew (S := (fun w' => w'.cell? ⟨D, 0, none⟩ = some (.pointer (some ⟨T, 0, none⟩)) ∧ w'.cell? ⟨D, 1, none⟩ = some (.pointer (some ⟨O, 0, none⟩)) ∧ w'.cell? ⟨O, 5, none⟩ = some (.string o.col))) (by kernel_rfl) (by (try dsimp only); (first | exact ⟨hS1, hS2⟩ | exact ⟨d0, d1, o5⟩ | exact ⟨(At.z2 (HD.out.d.fut (w' := _)).at0).1, (At.z2 (HD.out.d.fut (w' := _)).at0).2, (At.zOp (HD.out.op.fut (w' := _)).at0).2.2.2.2.2.1⟩)) (fun hHeld => ?_)
      refine wT 0 46 (by assumption) ?_
      refine wT 1 47 (by assumption) ?_
      refine wT 8 54 (by assumption) ?_
      refine wT 2 48 (by assumption) ?_
      refine wT 9 55 (by assumption) ?_
      refine wT 3 49 (by assumption) ?_
      refine wT 10 56 (by assumption) ?_
      refine wT 4 50 (by assumption) ?_
      refine wT 11 57 (by assumption) ?_
      refine wT 5 51 (by assumption) ?_
      refine wT 12 58 (by assumption) ?_
      refine wT 6 52 (by assumption) ?_
      refine wT 13 59 (by assumption) ?_
      refine wT 14 60 (by assumption) ?_
      refine wpAnyH_ready (rs := [7]) (by kernel_rfl) (by simp) ?_
      refine AllReadyH.cons (o := ⟨some 53, _, _, _, _, _⟩) rfl (fun K hK => ?_) AllReadyH.nil
      go_simp
      refine hK.out _ _ (by (try dsimp only); (first | exact ⟨hS1, hS2⟩ | exact ⟨d0, d1, o5⟩ | exact ⟨(At.z2 (HD.out.d.fut (w' := _)).at0).1, (At.z2 (HD.out.d.fut (w' := _)).at0).2, (At.zOp (HD.out.op.fut (w' := _)).at0).2.2.2.2.2.1⟩)) (fun hHeld => ?_)
      clear hK K
      (try simp only [Act.put, List.setIfInBounds_toArray, List.set_cons_zero, List.set_cons_succ])
      refine wpAnyH_ready (rs := [15]) (by kernel_rfl) (by simp) ?_
      refine AllReadyH.cons (o := ⟨some 61, _, _, _, _, _⟩) rfl (fun K hK => ?_) AllReadyH.nil
      obtain ⟨hS1, hS2⟩ := hHeld
      go_simp
      (go_at_call 144; (with_reducible refine (DR.out _ inferInstance).mono ?_); rintro e w5 ⟨A5, c5, rfl, hc5, ho5, hs5⟩; have HC5 := hide hc5; have HO5 := hide ho5; clear hc5 ho5)
      refine hK.out _ _ (by (try dsimp only); (first | exact ⟨(At.z2 (HD.out.d.fut (w' := w5)).at0).1, (At.z2 (HD.out.d.fut (w' := w5)).at0).2, (At.zOp (HD.out.op.fut (w' := w5)).at0).2.2.2.2.2.1⟩)) (fun hHeld => ?_)
      clear hK K
      (try simp only [Act.put, List.setIfInBounds_toArray, List.set_cons_zero, List.set_cons_succ])
      refine wT 16 62 (by assumption) ?_
      refine wT 17 63 (by assumption) ?_
      refine wpAnyH_ready (rs := [18]) (by kernel_rfl) (by simp) ?_
      refine AllReadyH.cons (o := ⟨some 64, _, _, _, _, _⟩) rfl (fun K hK => ?_) AllReadyH.nil
      obtain ⟨hS1, hS2⟩ := hHeld
      go_simp
      (go_at_call 90; (with_reducible refine (SO.out inferInstance HO5.out (Nat.le_trans hg (fut w _).size) HC5.out).mono ?_); rintro e w6 ⟨rfl, hd6, hm6⟩; have HD6 := hide hd6; have HM6 := hide hm6; clear hd6 hm6)
      refine hK.out _ _ (by (try dsimp only); (first | exact ⟨(At.z2 (HD6.out.d.fut (w' := w6)).at0).1, (At.z2 (HD6.out.d.fut (w' := w6)).at0).2, (At.zOp (HD6.out.op.fut (w' := w6)).at0).2.2.2.2.2.1⟩)) (fun hHeld => ?_)
      clear hK K
      (try simp only [Act.put, List.setIfInBounds_toArray, List.set_cons_zero, List.set_cons_succ])
      refine wpAnyH_done (by kernel_rfl) ?_ _
      clear d0 d1 ld t0 t1 t2 t3 t4 t5 lt_ ft_ o0 o1 o2 o3 o4 o5 o6 o7 o8 o9 o10 o11 o12 o13 o14 o15 lo
      obtain ⟨x6, hx6⟩ : ∃ x : World, x = w6 := ⟨_, rfl⟩
      rw [← hx6] at HD6 HM6 ⊢
      clear hx6
      have HMT0 : Hid (Mt g T w x6) := (Mt.step hg (fut w w5)).trans HM6.out
      have HSZ0 : Hid (w.heap.size ≤ x6.heap.size) := by show _ ≤ _; have := HM6.out.below.size; have := (fut w w5).size; omega
      obtain ⟨d0, d1⟩ := At.z2 (HD6.out.d.fut (w' := x6)).at0
      have ld := (HD6.out.d.fut (w' := x6)).lt
      obtain ⟨t0, t1, t2, t3, t4, t5⟩ := At.z6 (HD6.out.tb.fut (w' := x6)).at0
      have lt_ := (HD6.out.tb.fut (w' := x6)).lt
      have ft_ := (HD6.out.tb.fut (w' := x6)).free
      obtain ⟨o0, o1, o2, o3, o4, o5, o6, o7, o8, o9, o10, o11, o12, o13, o14, o15⟩ := At.zOp (HD6.out.op.fut (w' := x6)).at0
      have lo := (HD6.out.op.fut (w' := x6)).lt
      unfold TbA.cells at *
      go_wp2_with fail
      clear d0 d1 ld t0 t1 t2 t3 t4 t5 lt_ ft_ o0 o1 o2 o3 o4 o5 o6 o7 o8 o9 o10 o11 o12 o13 o14 o15 lo
      go_loopw [4, 73] (fun _ i wx => ∃ (k : Nat) (rs : List RowA), k ≤ t.rs.length ∧ i = .int .i64 k ∧ Hid (rs.map RowA.vs = mapTo (·.eraseIdx xn) k (t.rs.map RowA.vs)) ∧ Hid (rs.length = t.rs.length) ∧ Doer wx g D T O ((⟨s2, A5, c5, t.sid, t.fs, t.Af, t.cf, t.rs, t.Ar, t.cr⟩ : TbA).with_ rs) o ∧ Mt g T w wx ∧ w.heap.size ≤ wx.heap.size) (fun _ i _ => t.rs.length - (intOf i).toNat)
      case atStart => exact ⟨0, t.rs, Nat.zero_le _, rfl, (mapTo_zero _ _).symm, rfl, HD6.out.fut, (by first | exact HMT0.out | exact HMT0.out.drew), HSZ0.out⟩
      case round =>
        obtain ⟨k, rs, hk, rfl, HVS, HRL, hdo, hmt, hsz⟩ := hrel
        have HDO := hide hdo; have HMT := hide hmt
        clear hdo hmt
        obtain ⟨wo, rfl⟩ : ∃ x : World, x = wr := ⟨_, rfl⟩
        by_cases hlt : k < t.rs.length
        · obtain ⟨r, hr⟩ : ∃ r, rs[k]? = some r := ⟨_, List.getElem?_eq_getElem (by rw [HRL.out]; exact hlt)⟩
          have hrv : (t.rs.map RowA.vs)[k]? = some r.vs := by
            have h1 := congrArg (fun q => q[k]?) HVS.out
            simp only [mapTo_get, List.getElem?_map, hr, Option.map_some] at h1
            obtain ⟨r0, hr0⟩ : ∃ r0, t.rs[k]? = some r0 := ⟨_, List.getElem?_eq_getElem hlt⟩
            rw [hr0] at h1
            simp only [Option.map_some, Nat.lt_irrefl, if_false] at h1
            rw [List.getElem?_map, hr0]
            exact h1.symm
          have hrl : r.vs.length = t.s.cols.length := by
            obtain ⟨r0, hr0, e0⟩ := List.mem_map.1 (List.mem_of_getElem? hrv)
            rw [← e0]
            exact HROW.out r0 hr0
          have hel : (r.vs.eraseIdx xn).length = r.vs.length - 1 := by rw [List.length_eraseIdx, if_pos (by omega)]
          obtain ⟨gR, hAr, hgR, hltR, hcell, hfzR, _, _⟩ := HDO.out.own.rows.row hr
          obtain ⟨gV, cur, hAv, _, hgV, hbV, hnc, hcm, hcs, hta⟩ := (HDO.out.own.rows.rows.rows r (List.mem_of_getElem? hr)).blk (by simp; omega)
          obtain ⟨g2, curR, e2, _, _, hbR, _⟩ := HDO.out.own.rows.rows.out.blk (by show 0 < (rs.map RowA.cells).length; rw [List.length_map, HRL.out]; omega)
          have e3 : t.Ar = some ⟨gR, 0, none⟩ := hAr
          have e4 : t.Ar = some ⟨g2, 0, none⟩ := e2
          rw [e3] at e4
          injection e4 with e4
          injection e4 with e4
          subst e4
          have HRB := hide hbR
          have hDV : D ≠ gV := HDO.out.d.ne_ hbV (by decide)
          have hTV : T ≠ gV := HDO.out.tb.ne_ hbV (by decide)
          have hRV : gR ≠ gV := hbR.ne_ hbV (by decide)
          have hDR : D ≠ gR := HDO.out.d.ne_ hbR (by decide)
          have hTR : T ≠ gR := HDO.out.tb.ne_ hbR (by decide)
          have hcm2 : r.cap ≤ 9223372036854775807 := by simpa [maxLen] using hcm
          have DL : Hid (∀ (w' : World), Fut wo w' → Calls Tryz.prog 145 #[.slice (some ⟨gV, 0, none⟩) r.vs.length r.cap, .int .i64 xn, .int .i64 ((xn : Int) + 1)] w' fun e w'' => e = .returned (.slice (some ⟨gV, 0, none⟩) (r.vs.length - 1) r.cap) ∧ Own w'' g 36 4 (.slice (some ⟨gV, 0, none⟩) (r.vs.length - 1) r.cap) ((r.vs.eraseIdx xn).map Val.cells) ∧ w'.grownBy w'' (some gV)) := fun w' hq => by
            refine (deleteV_any gV r.cap xn r.vs.length cur r.vs w' hbV.fut rfl (by omega) hnc hcm2 hcs hta).mono ?_
            rintro e w'' ⟨he, ⟨cur', k1, k2, k3⟩, hgr⟩
            exact ⟨he, Own.of_blk k1 hgV (by rw [List.length_map, hel]) (vals_fit _).len (by omega) hcm k2 k3, hgr⟩
          have HVS2 : Hid ((rs.set k ⟨some ⟨gV, 0, none⟩, r.cap, r.vs.eraseIdx xn⟩).map RowA.vs = mapTo (·.eraseIdx xn) (k + 1) (t.rs.map RowA.vs)) := by
            show _ = _
            rw [← mapTo_step, ← HVS.out]
            exact map_set_modify (f := fun vs => vs.eraseIdx xn) hr
          have HRL2 : Hid ((rs.set k ⟨some ⟨gV, 0, none⟩, r.cap, r.vs.eraseIdx xn⟩).length = t.rs.length) := by show _ = _; rw [List.length_set]; exact HRL.out
          have hkl : (k : Int) < (t.rs.length : Int) := by omega
          have hkr : (k : Int) < (rs.length : Int) := by rw [HRL.out]; exact hkl
          have hkz : (0 : Int) ≤ (k : Int) := by omega
          have hwr : IntKind.i64.wrap ((xn : Int) + 1) = (xn : Int) + 1 := by rw [IntKind.wrap_i64]; omega
          have hgwo : g ≤ wo.heap.size := by omega
          have hxr : xn < r.vs.length := by omega
          clear hrv hrl hbV hbR e3 e2 hcs hta
          obtain ⟨d0, d1⟩ := At.z2 (HDO.out.d.fut (w' := wo)).at0
          have ld := (HDO.out.d.fut (w' := wo)).lt
          obtain ⟨t0, t1, t2, t3, t4, t5⟩ := At.z6 (HDO.out.tb.fut (w' := wo)).at0
          have lt_ := (HDO.out.tb.fut (w' := wo)).lt
          have ft_ := (HDO.out.tb.fut (w' := wo)).free
          obtain ⟨o0, o1, o2, o3, o4, o5, o6, o7, o8, o9, o10, o11, o12, o13, o14, o15⟩ := At.zOp (HDO.out.op.fut (w' := wo)).at0
          have lo := (HDO.out.op.fut (w' := wo)).lt
          unfold TbA.cells TbA.with_ at *
          simp only at t0 t1 t2 t3 t4 t5
          have hAr2 : t.Ar = some ⟨gR, 0, none⟩ := hAr
          rw [hAr2] at t5
          have hcell2 := hcell
          rw [hAv] at hcell2
          go_upto_region 8 with fail
          refine wp_region_held_drew (S := (fun w' => True ∧ ∀ b o, b < wo.heap.size → b ≠ gV → b ≠ gR → w'.cell? ⟨b, o, none⟩ = wo.cell? ⟨b, o, none⟩)) (by kernel_rfl) (by (try dsimp only); (first | exact ⟨hS1, hS2⟩ | exact ⟨trivial, fun b o h h1 _ => HCE.out b o h h1⟩ | exact ⟨trivial, fun b o h _ _ => rfl⟩)) (fun hHeld => ?_)
          refine wT 0 76 (by assumption) ?_
          refine wT 7 83 (by assumption) ?_
          refine wT 8 84 (by assumption) ?_
          refine wT 15 91 (by assumption) ?_
          refine wT 19 95 (by assumption) ?_
          refine wT 20 96 (by assumption) ?_
          refine wT 1 77 (by assumption) ?_
          refine wT 9 85 (by assumption) ?_
          refine wT 21 97 (by assumption) ?_
          refine wT 2 78 (by assumption) ?_
          refine wT 10 86 (by assumption) ?_
          refine wT 3 79 (by assumption) ?_
          refine wT 11 87 (by assumption) ?_
          refine wT 4 80 (by assumption) ?_
          refine wT 12 88 (by assumption) ?_
          refine wT 5 81 (by assumption) ?_
          refine wT 13 89 (by assumption) ?_
          refine wT 6 82 (by assumption) ?_
          refine wT 14 90 (by assumption) ?_
          refine wT 16 92 (by assumption) ?_
          refine wT 17 93 (by assumption) ?_
          refine wpAnyH_ready (rs := [18]) (by kernel_rfl) (by simp) ?_
          refine AllReadyH.cons (o := ⟨some 94, _, _, _, _, _⟩) rfl (fun K hK => ?_) AllReadyH.nil
          go_simp
          refine hK.out _ _ (by (try dsimp only); (first | exact ⟨hS1, hS2⟩ | exact ⟨trivial, fun b o h h1 _ => HCE.out b o h h1⟩ | exact ⟨trivial, fun b o h _ _ => rfl⟩)) (fun hHeld => ?_)
          clear hK K
          (try simp only [Act.put, List.setIfInBounds_toArray, List.set_cons_zero, List.set_cons_succ])
          refine wpAnyH_ready (rs := [22]) (by kernel_rfl) (by simp) ?_
          refine AllReadyH.cons (o := ⟨some 98, _, _, _, _, _⟩) rfl (fun K hK => ?_) AllReadyH.nil
          obtain ⟨hS1, hS2⟩ := hHeld
          go_simp
          (go_at_call 145; (with_reducible refine (DL.out _ inferInstance).mono ?_); rintro e w7 ⟨rfl, ho7, hgr7⟩)
          have HCE : Hid (∀ b o, b < wo.heap.size → b ≠ gV → w7.cell? ⟨b, o, none⟩ = wo.cell? ⟨b, o, none⟩) := fun b o h hn => World.cell?_of_block (w := wo) (hgr7.block b h (by intro hh; injection hh with hh; exact hn hh))
          have hs7 := Doer.setRow (r' := ⟨some ⟨gV, 0, none⟩, r.cap, r.vs.eraseIdx xn⟩) (HDO.out.fut (w' := wo.drew)) hr (Nat.le_trans hgwo (fut wo _).size) (by rw [hAv]; exact hgr7) (by show Own _ _ _ _ (.slice _ (r.vs.eraseIdx xn).length _) _; rw [hel]; exact ho7) (Or.inl (by rw [hAv])) hAr
          rw [hel] at hs7
          have HS7 := hide hs7
          have HZ7 : Hid (w.heap.size ≤ w7.heap.size) := by show _ ≤ _; exact Nat.le_trans hsz (Nat.le_trans (fut wo wo.drew).size hgr7.size)
          have HRB7 := hide ((HRB.out.fut (w' := wo.drew)).grown hgr7 (by intro hh; injection hh with hh; exact hRV hh))
          have c7 : w7.cell? ⟨gR, k, none⟩ = some (.slice r.A r.vs.length r.cap) := by rw [HCE.out gR k hltR hRV]; exact hcell
          have lr7 := HRB7.out.lt
          have fr7 := HRB7.out.free
          have HCF : Hid (∀ b o', b < wo.heap.size → b ≠ gV → b ≠ gR → (w7.setCell ⟨gR, k, none⟩ (.slice (some ⟨gV, 0, none⟩) (r.vs.length - 1) r.cap)).cell? ⟨b, o', none⟩ = wo.cell? ⟨b, o', none⟩) := fun b o' h h1 h2 => (World.cell?_of_block (w := w7) (Below.heap_setCell w7 ⟨gR, k, none⟩ _ b h2)).trans (HCE.out b o' h h1)
          clear ho7 hgr7 hs7
          refine hK.out _ _ (by (try dsimp only); (first | exact ⟨hS1, hS2⟩ | exact ⟨trivial, fun b o h h1 _ => HCE.out b o h h1⟩ | exact ⟨trivial, fun b o h _ _ => rfl⟩)) (fun hHeld => ?_)
          clear hK K
          (try simp only [Act.put, List.setIfInBounds_toArray, List.set_cons_zero, List.set_cons_succ])
          refine wT 23 99 (by assumption) ?_
          refine wT 24 100 (by assumption) ?_
          refine wpAnyH_ready (rs := [25]) (by kernel_rfl) (by simp) ?_
          refine AllReadyH.cons (o := ⟨none, _, _, _, _, _⟩) rfl (fun K hK => ?_) AllReadyH.nil
          go_simp
          refine hK.out _ _ (by (try dsimp only); (first | with_reducible exact ⟨trivial, fun b o h h1 h2 => HCF.out b o h h1 h2⟩ | exact ⟨trivial, fun b o h h1 h2 => HCF.out b o h h1 h2⟩)) (fun hHeld => ?_)
          clear hK K
          (try simp only [Act.put, List.setIfInBounds_toArray, List.set_cons_zero, List.set_cons_succ])
          refine wpAnyH_done (by kernel_rfl) ?_ _
          obtain ⟨Y, hY⟩ : ∃ y : World, y = w7.setCell ⟨gR, k, none⟩ (.slice (some ⟨gV, 0, none⟩) (r.vs.length - 1) r.cap) := ⟨_, rfl⟩
          have HDY : Hid (Doer Y g D T O ((⟨s2, A5, c5, t.sid, t.fs, t.Af, t.cf, t.rs, t.Ar, t.cr⟩ : TbA).with_ (rs.set k ⟨some ⟨gV, 0, none⟩, r.cap, r.vs.eraseIdx xn⟩)) o) := by rw [hY]; exact HS7.out.1
          have HMY : Hid (Mt g T w Y) := by rw [hY]; exact (HMT.out.trans (Mt.step hgwo (fut wo wo.drew))).trans HS7.out.2
          have HZY : Hid (w.heap.size ≤ Y.heap.size) := by
            show _ ≤ _
            rw [hY]
            have := (grown_setCell w7 gR k (.slice (some ⟨gV, 0, none⟩) (r.vs.length - 1) r.cap)).size
            have h2 := HZ7.out
            show _ ≤ (w7.setCell ⟨gR, k, none⟩ (.slice (some ⟨gV, 0, none⟩) (r.vs.length - 1) r.cap)).heap.size
            omega
          rw [← hY]
          clear hY HS7 HCE HCF d0 d1 ld t0 t1 t2 t3 t4 t5 lt_ ft_ o0 o1 o2 o3 o4 o5 o6 o7 o8 o9 o10 o11 o12 o13 o14 o15 lo hcell c7 lr7 fr7
          go_wp2_with fail
          go_roundw
          case rel => exact ⟨k + 1, by omega, by go_num, rs.set k ⟨some ⟨gV, 0, none⟩, r.cap, r.vs.eraseIdx xn⟩, HVS2.out, HRL2.out, (by first | exact HDY.out | (rw [← hAr2]; exact HDY.out)), HMY.out, HZY.out⟩
          case measure => simp [intOf]; omega
        · obtain rfl : k = t.rs.length := by omega
          go_wp2_with fail
          go_end0
          rw [HE.out]
          exact ⟨HMT.out, rfl, _, by show (⟨s2, t.sid, t.fs, rs.map RowA.vs⟩ : Tb) = _; rw [← mapTo_all, List.length_map, HVS.out], HDO.out.tb, HDO.out.own.r⟩
    · have HE : Hid (R = .error 5) := by show _ = _; rw [← HR1.out, if_pos hz]
      have SN : Hid (∀ {u0 u1 u2 : Value} (w'' : World) (_ : Fut w w''), Calls Tryz.prog 90 #[.pointer (some ⟨D, 0, none⟩), .agg #[u0, u1, u2], .int .i64 x2] w'' fun e w' => e = .panicked [{ v := faultM 5, recovered := false }] ∧ Step w'' w') := fun {u0 u1 u2} w'' hq => shape_no g D T O t o (.agg #[u0, u1, u2]) x2 hz u0 u1 u2 rfl w'' HD.out.fut
      refine wp_region_held_drew (S := (fun w' => w'.cell? ⟨D, 0, none⟩ = some (.pointer (some ⟨T, 0, none⟩)) ∧ w'.cell? ⟨D, 1, none⟩ = some (.pointer (some ⟨O, 0, none⟩)) ∧ w'.cell? ⟨O, 5, none⟩ = some (.string o.col))) (by kernel_rfl) (by (try dsimp only); (first | exact ⟨hS1, hS2⟩ | exact ⟨d0, d1, o5⟩ | exact ⟨(At.z2 (HD.out.d.fut (w' := _)).at0).1, (At.z2 (HD.out.d.fut (w' := _)).at0).2, (At.zOp (HD.out.op.fut (w' := _)).at0).2.2.2.2.2.1⟩)) (fun hHeld => ?_)
      refine wT 0 46 (by assumption) ?_
      refine wT 1 47 (by assumption) ?_
      refine wT 8 54 (by assumption) ?_
      refine wT 2 48 (by assumption) ?_
      refine wT 9 55 (by assumption) ?_
      refine wT 3 49 (by assumption) ?_
      refine wT 10 56 (by assumption) ?_
      refine wT 4 50 (by assumption) ?_
      refine wT 11 57 (by assumption) ?_
      refine wT 5 51 (by assumption) ?_
      refine wT 12 58 (by assumption) ?_
      refine wT 6 52 (by assumption) ?_
      refine wT 13 59 (by assumption) ?_
      refine wT 14 60 (by assumption) ?_
      refine wpAnyH_ready (rs := [7]) (by kernel_rfl) (by simp) ?_
      refine AllReadyH.cons (o := ⟨some 53, _, _, _, _, _⟩) rfl (fun K hK => ?_) AllReadyH.nil
      go_simp
      refine hK.out _ _ (by (try dsimp only); (first | exact ⟨hS1, hS2⟩ | exact ⟨d0, d1, o5⟩ | exact ⟨(At.z2 (HD.out.d.fut (w' := _)).at0).1, (At.z2 (HD.out.d.fut (w' := _)).at0).2, (At.zOp (HD.out.op.fut (w' := _)).at0).2.2.2.2.2.1⟩)) (fun hHeld => ?_)
      clear hK K
      (try simp only [Act.put, List.setIfInBounds_toArray, List.set_cons_zero, List.set_cons_succ])
      refine wpAnyH_ready (rs := [15]) (by kernel_rfl) (by simp) ?_
      refine AllReadyH.cons (o := ⟨some 61, _, _, _, _, _⟩) rfl (fun K hK => ?_) AllReadyH.nil
      obtain ⟨hS1, hS2⟩ := hHeld
      go_simp
      (go_at_call 144; (with_reducible refine (DR.out _ inferInstance).mono ?_); rintro e w5 ⟨A5, c5, rfl, hc5, ho5, hs5⟩; have HC5 := hide hc5; have HO5 := hide ho5; clear hc5 ho5)
      refine hK.out _ _ (by (try dsimp only); (first | exact ⟨(At.z2 (HD.out.d.fut (w' := w5)).at0).1, (At.z2 (HD.out.d.fut (w' := w5)).at0).2, (At.zOp (HD.out.op.fut (w' := w5)).at0).2.2.2.2.2.1⟩)) (fun hHeld => ?_)
      clear hK K
      (try simp only [Act.put, List.setIfInBounds_toArray, List.set_cons_zero, List.set_cons_succ])
      refine wT 16 62 (by assumption) ?_
      refine wT 17 63 (by assumption) ?_
      refine wpAnyH_ready (rs := [18]) (by kernel_rfl) (by simp) ?_
      refine AllReadyH.cons (o := ⟨some 64, _, _, _, _, _⟩) rfl (fun K hK => ?_) AllReadyH.nil
      obtain ⟨hS1, hS2⟩ := hHeld
      go_simp
      (go_at_call 90; (with_reducible refine (SN.out _ inferInstance).mono ?_); rintro e w6 ⟨rfl, hs6⟩)
      exact ⟨rfl, by rw [HE.out]; exact ⟨Mt.step hg (fut w _), rfl⟩⟩
end Go.Proofs.YtnphokhehacfnaaGreatDoor

