/-
  Texts put together: Dm.
-/
import Derived.Tactics2
import Derived.Defers
import Derived.Recover
import Derived.Test.YtnphokhehacfnaaGreatDoorCz09
import Derived.Test.YtnphokhehacfnaaGreatDoorCz12
import Derived.Test.YtnphokhehacfnaaGreatDoorCz13
namespace Go.Proofs.YtnphokhehacfnaaGreatDoor
open Go.RowKit

theorem catch_idle (p : Addr) (w : World) :
    CallsD Tryz.prog 43 #[.pointer (some p)] .returning w fun e u' w' => e = .returned (.tuple #[]) ∧ u' = .returning ∧ w' = w := by
  refine callsD_of_wpS Tryz.func43 rfl fun c₀ cs hu => ?_
  apply wpS_seq
  apply wpS_region
  simp [wpOpsS, go_sem, recoverD, hu, Tryz.ntmps43, Exit.thenS]
  apply wpS_seq
  apply wpS_region
  simp [wpOpsS, go_sem, Exit.thenS]
  refine wpS_cond (t := false) (by simp [Act.eval]) ?_
  simp only [Bool.false_eq_true, if_false]
  refine wpS_of_wp (wp_skip ?_)
  cases c₀
  simp_all [bodyPostS, results, Tryz.results43]
set_option maxRecDepth 100000 in
theorem catch_panicking (pb : Nat) (et : TypeId) (x c : Int) (older : List PanicEntry) (w : World) (hb : Blk w pb et [.int .i64 x]) :
    CallsD Tryz.prog 43 #[.pointer (some ⟨pb, 0, none⟩)] (.panicking ({ v := faultM c, recovered := false } :: older)) w fun e u' w' =>
      e = .returned (.tuple #[]) ∧ u' = .panicking ({ v := faultM c, recovered := true } :: older) ∧ w' = (w.setCell ⟨pb, 0, none⟩ (.int .i64 c)).alloc (.cells #[.int .i64 c] 121) := by
  have q0 := At.z1 hb.at0
  have lq := hb.lt
  have fq := hb.free
  clear hb
  refine callsD_of_wpS Tryz.func43 rfl fun c₀ cs hu => ?_
  apply wpS_seq
  apply wpS_region
  simp [wpOpsS, go_sem, recoverD, hu, Tryz.ntmps43, Exit.thenS]
  apply wpS_seq
  apply wpS_region
  simp [wpOpsS, go_sem, Exit.thenS, faultM]
  refine wpS_cond (t := true) (by simp [Act.eval]) ?_
  simp only [if_true]
  rw [show (Array.replicate 19 undef : Array Value) = #[undef, undef, undef, undef, undef, undef, undef, undef, undef, undef, undef, undef, undef, undef, undef, undef, undef, undef, undef] from rfl]
  simp only [List.setIfInBounds_toArray, List.set_cons_zero, List.set_cons_succ, List.append_toArray, List.cons_append, List.nil_append]
  have hta : ∀ w : World, (Instr.typeAssert (.iface 121 (.agg #[.int .i64 c])) 20 121 true).run Tryz.prog w = .ok (.tuple #[.agg #[.int .i64 c], .bool true]) w := fun _ => by kernel_rfl
  refine wpS_of_wp ?_
  go_wp2_with fail
  cases c₀
  simp_all [bodyPostS, results, Tryz.results43]

def set6D (w : World) (g : Nat) (a b c d e f : Value) : World := (((((w.setCell ⟨g, 0, none⟩ a).setCell ⟨g, 1, none⟩ b).setCell ⟨g, 2, none⟩ c).setCell ⟨g, 3, none⟩ d).setCell ⟨g, 4, none⟩ e).setCell ⟨g, 5, none⟩ f
theorem set6D_grown (w : World) (g : Nat) (a b c d e f : Value) : w.grownBy (set6D w g a b c d e f) (some g) := (((((grown_setCell w g 0 a).trans (grown_setCell _ g 1 b)).trans (grown_setCell _ g 2 c)).trans (grown_setCell _ g 3 d)).trans (grown_setCell _ g 4 e)).trans (grown_setCell _ g 5 f)
theorem set6D_blk {w : World} {g : Nat} {e : TypeId} {x0 x1 x2 x3 x4 x5 : Value} (h : Blk w g e [x0, x1, x2, x3, x4, x5]) (a b c d y f : Value) : Blk (set6D w g a b c d y f) g e [a, b, c, d, y, f] := (((((h.set_ 0 a).set_ 1 b).set_ 2 c).set_ 3 d).set_ 4 y).set_ 5 f
theorem set6D_below {B : Nat} {w W : World} {g : Nat} (h : Below B w W) (hg : B ≤ g) (a b c d e f : Value) : Below B w (set6D W g a b c d e f) := (((((h.setCell (p := ⟨g, 0, none⟩) hg a).setCell (p := ⟨g, 1, none⟩) hg b).setCell (p := ⟨g, 2, none⟩) hg c).setCell (p := ⟨g, 3, none⟩) hg d).setCell (p := ⟨g, 4, none⟩) hg e).setCell (p := ⟨g, 5, none⟩) hg f
theorem set6D_far {w : World} {g b : Nat} {e : TypeId} {cs : List Value} (h : Blk w g e cs) (hb : g ≠ b) (x0 x1 x2 x3 x4 x5 : Value) : Blk (set6D w b x0 x1 x2 x3 x4 x5) g e cs := h.grown (set6D_grown w b x0 x1 x2 x3 x4 x5) (by intro hh; injection hh with hh; exact hb hh)
theorem TbOwnR.set6 {w : World} {base b : Nat} {t : TbA} {cs : List Value} (h : TbOwnR w base t) (hb : Blk w b 30 cs) (x0 x1 x2 x3 x4 x5 : Value) : TbOwnR (set6D w b x0 x1 x2 x3 x4 x5) base t := by
  have c0 := hb.set_ 0 x0
  have c1 := c0.set_ 1 x1
  have c2 := c1.set_ 2 x2
  have c3 := c2.set_ 3 x3
  have c4 := c3.set_ 4 x4
  exact (((((h.setT hb 0 x0).setT c0 1 x1).setT c1 2 x2).setT c2 3 x3).setT c3 4 x4).setT c4 5 x5
theorem TbOwnR.more {w : World} {base base' : Nat} {t : TbA} (h : TbOwnR w base t) (hb : base' ≤ base) : TbOwnR w base' t := ⟨h.cols.more hb, h.flds.more hb, ⟨h.rows.out.more hb, fun r hr => (h.rows.rows r hr).more hb⟩⟩
theorem TbOwnR.grownE {w w' : World} {base b : Nat} {t : TbA} {e : TypeId} {cs : List Value} (h : TbOwnR w base t) (hb : Blk w b e cs) (he : e ≠ 90 ∧ e ≠ 92 ∧ e ≠ 67 ∧ e ≠ 36) (hg : w.grownBy w' (some b)) : TbOwnR w' base t := by
  have mv : ∀ {e' : TypeId} {size : Nat} {v : Value} {l : List (List Value)}, e' ≠ e → Own w base e' size v l → Own w' base e' size v l := fun hne ho => ho.grown_other hg fun q hq hh => ho.ne_ hb hne (by rw [hq]; exact hh)
  exact ⟨mv he.1.symm h.cols, mv he.2.1.symm h.flds, ⟨mv he.2.2.1.symm h.rows.out, fun r hr => mv he.2.2.2.symm (h.rows.rows r hr)⟩⟩
/-- What Apply answers. -/
def ApplyR (w : World) (r : Tb × Int) (e : Ending) (w' : World) : Prop :=
  ∃ t' : TbA, e = .returned (.tuple #[.agg #[.int .i64 t'.s.id, .slice t'.As t'.s.cols.length t'.cs, .int .i64 t'.s.next, .int .i64 t'.sid, .slice t'.Af t'.fs.length t'.cf, .slice t'.Ar t'.rs.length t'.cr], .int .i64 r.2]) ∧ t'.tb = r.1 ∧ TbOwnR w' w.heap.size t' ∧ Step w w'
set_option maxRecDepth 100000 in
set_option maxHeartbeats 4000000 in
theorem clr25_no (pe pt po : Nat) (te : TypeId) (u : FrameMode) (w : World) (he : Blk w pe te [.int .i64 0]) :
    CallsD Tryz.prog 42 #[.pointer (some ⟨pe, 0, none⟩), .pointer (some ⟨pt, 0, none⟩), .pointer (some ⟨po, 0, none⟩)] u w fun e u' w' => e = .returned (.tuple #[]) ∧ u' = u ∧ w' = w := by
  have q0 := At.z1 he.at0
  have lq := he.lt
  clear he
  refine (callsD_of_wp (R := fun e w' => e = .returned (.tuple #[]) ∧ w' = w) Tryz.func42 rfl ?_).mono (fun e u' w' h => ⟨h.2.1, h.1, h.2.2⟩)
  change Code.wp Tryz.prog _ _ { tmps := #[.pointer (some ⟨pe, 0, none⟩), .pointer (some ⟨pt, 0, none⟩), .pointer (some ⟨po, 0, none⟩), undef, undef, undef, undef], defers := [] } w
  go_wp2_with fail
  go_end0
  exact ⟨rfl, rfl⟩
set_option maxRecDepth 100000 in
set_option maxHeartbeats 4000000 in
theorem clr25_yes {w0 : World} (pe pt po : Nat) (te : TypeId) (c : Int) (hc : c ≠ 0) (t : TbA) (x0 x1 x2 x3 x4 x5 : Value) (u : FrameMode) (w : World) (he : Blk w pe te [.int .i64 c]) (ht : Blk w pt 30 [.int .i64 t.s.id, .slice t.As t.s.cols.length t.cs, .int .i64 t.s.next, .int .i64 t.sid, .slice t.Af t.fs.length t.cf, .slice t.Ar t.rs.length t.cr]) (ho : Blk w po 30 [x0, x1, x2, x3, x4, x5]) (hin : TbIn w0 t) [f0 : Fut w0 w] (hep : te = 3) :
    CallsD Tryz.prog 42 #[.pointer (some ⟨pe, 0, none⟩), .pointer (some ⟨pt, 0, none⟩), .pointer (some ⟨po, 0, none⟩)] u w fun e u' w' => e = .returned (.tuple #[]) ∧ u' = u ∧ ∃ t' : TbA, t'.tb = t.tb ∧ Blk w' po 30 [.int .i64 t'.s.id, .slice t'.As t'.s.cols.length t'.cs, .int .i64 t'.s.next, .int .i64 t'.sid, .slice t'.Af t'.fs.length t'.cf, .slice t'.Ar t'.rs.length t'.cr] ∧ Blk w' pe te [.int .i64 c] ∧ TbOwnR w' w.heap.size t' ∧ Below po w w' := by
  have q0 := At.z1 he.at0
  have lq := he.lt
  obtain ⟨t0, t1, t2, t3, t4, t5⟩ := At.z6 ht.at0
  have lt_ := ht.lt
  have HE := hide he; have HO := hide ho
  have hlo := ho.lt
  clear he ht ho
  have MC := hide (fun (w' : World) (hq : Fut w w') => haveI := Fut.tr f0 hq; mclone_any t w' hin)
  have hcb : (c != 0) = true := bne_iff_ne.2 hc
  refine (callsD_of_wp (R := fun e w' => e = .returned (.tuple #[]) ∧ ∃ t' : TbA, t'.tb = t.tb ∧ Blk w' po 30 [.int .i64 t'.s.id, .slice t'.As t'.s.cols.length t'.cs, .int .i64 t'.s.next, .int .i64 t'.sid, .slice t'.Af t'.fs.length t'.cf, .slice t'.Ar t'.rs.length t'.cr] ∧ Blk w' pe te [.int .i64 c] ∧ TbOwnR w' w.heap.size t' ∧ Below po w w') Tryz.func42 rfl ?_).mono (fun e u' w' h => ⟨h.2.1, h.1, h.2.2⟩)
  change Code.wp Tryz.prog _ _ { tmps := #[.pointer (some ⟨pe, 0, none⟩), .pointer (some ⟨pt, 0, none⟩), .pointer (some ⟨po, 0, none⟩), undef, undef, undef, undef], defers := [] } w
  go_wp2_with (go_at_call 41; (with_reducible refine (MC.out _ inferInstance).mono ?_); rintro e w3 ⟨Ac, cc, Af, cf, os, A', c', rfl, hos, hol, hown, hs3⟩; have HOS := hide hos; have HOL := hide hol; have HOW := hide hown; have ob := HO.out.fut (w' := w3); obtain ⟨r0, r1, r2, r3, r4, r5⟩ := At.z6 ob.at0; have lr := ob.lt; have fr := ob.free; clear hos hol hown ob)
  go_end0
  have HO3 := HO.out.fut (w' := w3)
  have hne : pe ≠ po := HE.out.ne_ HO.out (by rw [hep]; decide)
  exact ⟨rfl, ⟨t.s, Ac, cc, t.sid, t.fs, Af, cf, os, A', c'⟩, by simp only [TbA.tb]; rw [HOS.out], by
    show Blk _ _ _ [_, _, _, _, _, .slice A' os.length c']
    rw [HOL.out]
    exact set6D_blk HO3 (.int .i64 t.s.id) (.slice Ac t.s.cols.length cc) (.int .i64 t.s.next) (.int .i64 t.sid) (.slice Af t.fs.length cf) (.slice A' t.rs.length c'), set6D_far (HE.out.fut (w' := w3)) hne (.int .i64 t.s.id) (.slice Ac t.s.cols.length cc) (.int .i64 t.s.next) (.int .i64 t.sid) (.slice Af t.fs.length cf) (.slice A' t.rs.length c'), HOW.out.r.set6 HO3 (.int .i64 t.s.id) (.slice Ac t.s.cols.length cc) (.int .i64 t.s.next) (.int .i64 t.sid) (.slice Af t.fs.length cf) (.slice A' t.rs.length c'), set6D_below ((fut w w3).mono (Nat.le_of_lt hlo)) (Nat.le_refl _) (.int .i64 t.s.id) (.slice Ac t.s.cols.length cc) (.int .i64 t.s.next) (.int .i64 t.sid) (.slice Af t.fs.length cf) (.slice A' t.rs.length c')⟩

set_option maxRecDepth 100000 in
set_option maxHeartbeats 8000000 in
theorem apply_form {w0 : World} (t : TbA) (o : OpA) (w : World) (hin : TbIn w0 t) [f0 : Fut w0 w] (hbad : tabB t.tb = false ∨ o.kind < 0 ∨ 8 < o.kind) :
    Calls Tryz.prog 13 #[.agg #[.int .i64 t.s.id, .slice t.As t.s.cols.length t.cs, .int .i64 t.s.next, .int .i64 t.sid, .slice t.Af t.fs.length t.cf, .slice t.Ar t.rs.length t.cr], .agg #[.int .i64 o.kind, .string o.txn, .slice o.Ac o.cols.length o.cc, .slice o.Ar o.rows.length o.cr, .slice o.An o.ns.length o.cn, .string o.col, .string o.name, .int .i64 o.ck, .int .i64 o.v.kind, .int .i64 o.v.i, .bool o.v.b, .string o.v.s, .slice o.Af o.fs.length o.cf, .int .i64 o.ver, .int .i64 o.time, .int .i64 o.agg]] w (ApplyR w (t.tb, 9)) := by
  have MY := hide (fun (w' : World) (hq : Fut w w') => haveI := Fut.tr f0 hq; mmay_any t w' hin)
  have MC := hide (fun (w' : World) (hq : Fut w w') => haveI := Fut.tr f0 hq; mclone_any t w' hin)
  have hmf : ∀ (fn : Fn) (first cap : Array Value) (w : World), (Instr.makeFunc fn first cap).run Tryz.prog w = .ok (.func fn first cap) w := fun _ _ _ _ => rfl
  obtain ⟨W, hW⟩ : ∃ x : World, x = (((w.alloc (.cells #[.int .i64 t.s.id, .slice t.As t.s.cols.length t.cs, .int .i64 t.s.next, .int .i64 t.sid, .slice t.Af t.fs.length t.cf, .slice t.Ar t.rs.length t.cr] 30)).alloc (.cells #[.int .i64 o.kind, .string o.txn, .slice o.Ac o.cols.length o.cc, .slice o.Ar o.rows.length o.cr, .slice o.An o.ns.length o.cn, .string o.col, .string o.name, .int .i64 o.ck, .int .i64 o.v.kind, .int .i64 o.v.i, .bool o.v.b, .string o.v.s, .slice o.Af o.fs.length o.cf, .int .i64 o.ver, .int .i64 o.time, .int .i64 o.agg] 38)).alloc (.cells #[.int .i64 0, .slice none 0 0, .int .i64 0, .int .i64 0, .slice none 0 0, .slice none 0 0] 30)).alloc (.cells #[.int .i64 0] 3) := ⟨_, rfl⟩
  have SW : Step w W := by rw [hW]; exact Step.of
  have HT : Hid (Blk W w.heap.size 30 [.int .i64 t.s.id, .slice t.As t.s.cols.length t.cs, .int .i64 t.s.next, .int .i64 t.sid, .slice t.Af t.fs.length t.cf, .slice t.Ar t.rs.length t.cr]) := by rw [hW]; exact (((Blk.new w _ 30).alloc _).alloc _).alloc _
  have HO : Hid (Blk W (w.heap.size + 1) 38 [.int .i64 o.kind, .string o.txn, .slice o.Ac o.cols.length o.cc, .slice o.Ar o.rows.length o.cr, .slice o.An o.ns.length o.cn, .string o.col, .string o.name, .int .i64 o.ck, .int .i64 o.v.kind, .int .i64 o.v.i, .bool o.v.b, .string o.v.s, .slice o.Af o.fs.length o.cf, .int .i64 o.ver, .int .i64 o.time, .int .i64 o.agg]) := by rw [hW]; exact ((Blk.new_at (by simp) _ 38).alloc _).alloc _
  have HU : Hid (Blk W (w.heap.size + 2) 30 [.int .i64 0, .slice none 0 0, .int .i64 0, .int .i64 0, .slice none 0 0, .slice none 0 0]) := by rw [hW]; exact (Blk.new_at (by simp) _ 30).alloc _
  have HE : Hid (Blk W (w.heap.size + 3) 3 [.int .i64 0]) := by rw [hW]; exact Blk.new_at (by simp) _ 3
  have hzW : w.heap.size + 4 = W.heap.size := by rw [hW]; simp
  have HZW := hide hzW
  clear hzW
  cases hm : tabB t.tb with
  | false =>
    rw [hm] at MY
    clear hm hbad
    go_enter_defers Tryz.func13, Tryz.ntmps13
    go_upto_region 1 with fail
    rw [← hW]
    clear hW
    obtain ⟨t0, t1, t2, t3, t4, t5⟩ := At.z6 (HT.out.fut (w' := W)).at0
    have lt_ := (HT.out.fut (w' := W)).lt
    obtain ⟨o0, o1, o2, o3, o4, o5, o6, o7, o8, o9, o10, o11, o12, o13, o14, o15⟩ := At.zOp (HO.out.fut (w' := W)).at0
    have lo := (HO.out.fut (w' := W)).lt
    go_wp2_with (first | (go_at_call 19; (with_reducible refine (MY.out _ inferInstance).mono ?_); rintro e w3 ⟨rfl, hs3⟩; clear t0 t1 t2 t3 t4 t5 lt_ o0 o1 o2 o3 o4 o5 o6 o7 o8 o9 o10 o11 o12 o13 o14 o15 lo; obtain ⟨t0, t1, t2, t3, t4, t5⟩ := At.z6 (HT.out.fut (w' := w3)).at0; have lt_ := (HT.out.fut (w' := w3)).lt; obtain ⟨o0, o1, o2, o3, o4, o5, o6, o7, o8, o9, o10, o11, o12, o13, o14, o15⟩ := At.zOp (HO.out.fut (w' := w3)).at0; have lo := (HO.out.fut (w' := w3)).lt) | (go_at_call 41; (with_reducible refine (MC.out _ inferInstance).mono ?_); rintro e w4 ⟨Ac, cc, Af, cf, os, A', c', rfl, hos, hol, hown, hs4⟩; have HOS := hide hos; have HOL := hide hol; have HOW := hide hown; clear hos hol hown; have ub := HU.out.fut (w' := w4); obtain ⟨u0, u1, u2, u3, u4, u5⟩ := At.z6 ub.at0; have lu := ub.lt; have fu := ub.free; have eb := HE.out.fut (w' := w4); have e0 := At.z1 eb.at0; have le := eb.lt; have fe := eb.free; clear ub eb))
    have HF := HOW.out.r.set6 (HU.out.fut (w' := w4)) (.int .i64 t.s.id) (.slice Ac t.s.cols.length cc) (.int .i64 t.s.next) (.int .i64 t.sid) (.slice Af t.fs.length cf) (.slice A' t.rs.length c')
    have HB := set6D_blk (HU.out.fut (w' := w4)) (.int .i64 t.s.id) (.slice Ac t.s.cols.length cc) (.int .i64 t.s.next) (.int .i64 t.sid) (.slice Af t.fs.length cf) (.slice A' t.rs.length c')
    have HE2 := set6D_far (HE.out.fut (w' := w4)) (b := w.heap.size + 2) (by omega) (.int .i64 t.s.id) (.slice Ac t.s.cols.length cc) (.int .i64 t.s.next) (.int .i64 t.sid) (.slice Af t.fs.length cf) (.slice A' t.rs.length c')
    have HF2 := HF.grownE HE2 (by decide) (grown_setCell _ (w.heap.size + 3) 0 (.int .i64 9))
    have hb2 : Below w.heap.size w _ := (set6D_below (fut w w4) (show w.heap.size ≤ w.heap.size + 2 by omega) (.int .i64 t.s.id) (.slice Ac t.s.cols.length cc) (.int .i64 t.s.next) (.int .i64 t.sid) (.slice Af t.fs.length cf) (.slice A' t.rs.length c')).setCell (p := ⟨w.heap.size + 3, 0, none⟩) (by simp) (.int .i64 9)
    simp [bodyPostD, Leaves, results, Tryz.results13, go_sem, u0, u1, u2, u3, u4, u5, e0]
    exact ⟨⟨t.s, Ac, cc, t.sid, t.fs, Af, cf, os, A', c'⟩, by rw [HOL.out], by simp only [TbA.tb]; rw [HOS.out], HF2.more (fut w w3).size, ⟨hb2⟩⟩
  | true =>
    rw [hm] at MY
    by_cases h0 : o.kind < 0
    · clear hm hbad
      go_enter_defers Tryz.func13, Tryz.ntmps13
      go_upto_region 1 with fail
      rw [← hW]
      clear hW
      obtain ⟨t0, t1, t2, t3, t4, t5⟩ := At.z6 (HT.out.fut (w' := W)).at0
      have lt_ := (HT.out.fut (w' := W)).lt
      obtain ⟨o0, o1, o2, o3, o4, o5, o6, o7, o8, o9, o10, o11, o12, o13, o14, o15⟩ := At.zOp (HO.out.fut (w' := W)).at0
      have lo := (HO.out.fut (w' := W)).lt
      go_wp2_with (first | (go_at_call 19; (with_reducible refine (MY.out _ inferInstance).mono ?_); rintro e w3 ⟨rfl, hs3⟩; clear t0 t1 t2 t3 t4 t5 lt_ o0 o1 o2 o3 o4 o5 o6 o7 o8 o9 o10 o11 o12 o13 o14 o15 lo; obtain ⟨t0, t1, t2, t3, t4, t5⟩ := At.z6 (HT.out.fut (w' := w3)).at0; have lt_ := (HT.out.fut (w' := w3)).lt; obtain ⟨o0, o1, o2, o3, o4, o5, o6, o7, o8, o9, o10, o11, o12, o13, o14, o15⟩ := At.zOp (HO.out.fut (w' := w3)).at0; have lo := (HO.out.fut (w' := w3)).lt) | (go_at_call 41; (with_reducible refine (MC.out _ inferInstance).mono ?_); rintro e w4 ⟨Ac, cc, Af, cf, os, A', c', rfl, hos, hol, hown, hs4⟩; have HOS := hide hos; have HOL := hide hol; have HOW := hide hown; clear hos hol hown; have ub := HU.out.fut (w' := w4); obtain ⟨u0, u1, u2, u3, u4, u5⟩ := At.z6 ub.at0; have lu := ub.lt; have fu := ub.free; have eb := HE.out.fut (w' := w4); have e0 := At.z1 eb.at0; have le := eb.lt; have fe := eb.free; clear ub eb))
      have HF := HOW.out.r.set6 (HU.out.fut (w' := w4)) (.int .i64 t.s.id) (.slice Ac t.s.cols.length cc) (.int .i64 t.s.next) (.int .i64 t.sid) (.slice Af t.fs.length cf) (.slice A' t.rs.length c')
      have HB := set6D_blk (HU.out.fut (w' := w4)) (.int .i64 t.s.id) (.slice Ac t.s.cols.length cc) (.int .i64 t.s.next) (.int .i64 t.sid) (.slice Af t.fs.length cf) (.slice A' t.rs.length c')
      have HE2 := set6D_far (HE.out.fut (w' := w4)) (b := w.heap.size + 2) (by omega) (.int .i64 t.s.id) (.slice Ac t.s.cols.length cc) (.int .i64 t.s.next) (.int .i64 t.sid) (.slice Af t.fs.length cf) (.slice A' t.rs.length c')
      have HF2 := HF.grownE HE2 (by decide) (grown_setCell _ (w.heap.size + 3) 0 (.int .i64 9))
      have hb2 : Below w.heap.size w _ := (set6D_below (fut w w4) (show w.heap.size ≤ w.heap.size + 2 by omega) (.int .i64 t.s.id) (.slice Ac t.s.cols.length cc) (.int .i64 t.s.next) (.int .i64 t.sid) (.slice Af t.fs.length cf) (.slice A' t.rs.length c')).setCell (p := ⟨w.heap.size + 3, 0, none⟩) (by simp) (.int .i64 9)
      simp [bodyPostD, Leaves, results, Tryz.results13, go_sem, u0, u1, u2, u3, u4, u5, e0]
      exact ⟨⟨t.s, Ac, cc, t.sid, t.fs, Af, cf, os, A', c'⟩, by rw [HOL.out], by simp only [TbA.tb]; rw [HOS.out], HF2.more (fut w w3).size, ⟨hb2⟩⟩
    · have h8 : 8 < o.kind := by rcases hbad with h | h | h; (rw [hm] at h; cases h); exact absurd h h0; exact h
      clear hm hbad
      go_enter_defers Tryz.func13, Tryz.ntmps13
      go_upto_region 1 with fail
      rw [← hW]
      clear hW
      obtain ⟨t0, t1, t2, t3, t4, t5⟩ := At.z6 (HT.out.fut (w' := W)).at0
      have lt_ := (HT.out.fut (w' := W)).lt
      obtain ⟨o0, o1, o2, o3, o4, o5, o6, o7, o8, o9, o10, o11, o12, o13, o14, o15⟩ := At.zOp (HO.out.fut (w' := W)).at0
      have lo := (HO.out.fut (w' := W)).lt
      go_wp2_with (first | (go_at_call 19; (with_reducible refine (MY.out _ inferInstance).mono ?_); rintro e w3 ⟨rfl, hs3⟩; clear t0 t1 t2 t3 t4 t5 lt_ o0 o1 o2 o3 o4 o5 o6 o7 o8 o9 o10 o11 o12 o13 o14 o15 lo; obtain ⟨t0, t1, t2, t3, t4, t5⟩ := At.z6 (HT.out.fut (w' := w3)).at0; have lt_ := (HT.out.fut (w' := w3)).lt; obtain ⟨o0, o1, o2, o3, o4, o5, o6, o7, o8, o9, o10, o11, o12, o13, o14, o15⟩ := At.zOp (HO.out.fut (w' := w3)).at0; have lo := (HO.out.fut (w' := w3)).lt) | (go_at_call 41; (with_reducible refine (MC.out _ inferInstance).mono ?_); rintro e w4 ⟨Ac, cc, Af, cf, os, A', c', rfl, hos, hol, hown, hs4⟩; have HOS := hide hos; have HOL := hide hol; have HOW := hide hown; clear hos hol hown; have ub := HU.out.fut (w' := w4); obtain ⟨u0, u1, u2, u3, u4, u5⟩ := At.z6 ub.at0; have lu := ub.lt; have fu := ub.free; have eb := HE.out.fut (w' := w4); have e0 := At.z1 eb.at0; have le := eb.lt; have fe := eb.free; clear ub eb))
      have HF := HOW.out.r.set6 (HU.out.fut (w' := w4)) (.int .i64 t.s.id) (.slice Ac t.s.cols.length cc) (.int .i64 t.s.next) (.int .i64 t.sid) (.slice Af t.fs.length cf) (.slice A' t.rs.length c')
      have HB := set6D_blk (HU.out.fut (w' := w4)) (.int .i64 t.s.id) (.slice Ac t.s.cols.length cc) (.int .i64 t.s.next) (.int .i64 t.sid) (.slice Af t.fs.length cf) (.slice A' t.rs.length c')
      have HE2 := set6D_far (HE.out.fut (w' := w4)) (b := w.heap.size + 2) (by omega) (.int .i64 t.s.id) (.slice Ac t.s.cols.length cc) (.int .i64 t.s.next) (.int .i64 t.sid) (.slice Af t.fs.length cf) (.slice A' t.rs.length c')
      have HF2 := HF.grownE HE2 (by decide) (grown_setCell _ (w.heap.size + 3) 0 (.int .i64 9))
      have hb2 : Below w.heap.size w _ := (set6D_below (fut w w4) (show w.heap.size ≤ w.heap.size + 2 by omega) (.int .i64 t.s.id) (.slice Ac t.s.cols.length cc) (.int .i64 t.s.next) (.int .i64 t.sid) (.slice Af t.fs.length cf) (.slice A' t.rs.length c')).setCell (p := ⟨w.heap.size + 3, 0, none⟩) (by simp) (.int .i64 9)
      simp [bodyPostD, Leaves, results, Tryz.results13, go_sem, u0, u1, u2, u3, u4, u5, e0]
      exact ⟨⟨t.s, Ac, cc, t.sid, t.fs, Af, cf, os, A', c'⟩, by rw [HOL.out], by simp only [TbA.tb]; rw [HOS.out], HF2.more (fut w w3).size, ⟨hb2⟩⟩

set_option maxRecDepth 100000 in
set_option maxHeartbeats 8000000 in
theorem apply_err {w0 : World} (t : TbA) (o : OpA) (w : World) (hin : TbIn w0 t) [f0 : Fut w0 w] (hm : tabB t.tb = true) (h0 : ¬ o.kind < 0) (h8 : ¬ 8 < o.kind) (c : Int) (hc : c ≠ 0)
    (hrun : ∀ (g D T O : Nat) (t' : TbA) (w' : World), Fut w w' → Doer w' g D T O t' o → t'.tb = t.tb → g ≤ w'.heap.size → Calls Tryz.prog 44 #[.pointer (some ⟨D, 0, none⟩)] w' fun e w'' => RunR g T w' (.error c) e w'') :
    Calls Tryz.prog 13 #[.agg #[.int .i64 t.s.id, .slice t.As t.s.cols.length t.cs, .int .i64 t.s.next, .int .i64 t.sid, .slice t.Af t.fs.length t.cf, .slice t.Ar t.rs.length t.cr], .agg #[.int .i64 o.kind, .string o.txn, .slice o.Ac o.cols.length o.cc, .slice o.Ar o.rows.length o.cr, .slice o.An o.ns.length o.cn, .string o.col, .string o.name, .int .i64 o.ck, .int .i64 o.v.kind, .int .i64 o.v.i, .bool o.v.b, .string o.v.s, .slice o.Af o.fs.length o.cf, .int .i64 o.ver, .int .i64 o.time, .int .i64 o.agg]] w (ApplyR w (t.tb, c)) := by
  have MY := hide (fun (w' : World) (hq : Fut w w') => haveI := Fut.tr f0 hq; mmay_any t w' hin)
  have MC := hide (fun (w' : World) (hq : Fut w w') => haveI := Fut.tr f0 hq; mclone_any t w' hin)
  have hmf : ∀ (fn : Fn) (first cap : Array Value) (w : World), (Instr.makeFunc fn first cap).run Tryz.prog w = .ok (.func fn first cap) w := fun _ _ _ _ => rfl
  obtain ⟨W, hW⟩ : ∃ x : World, x = (((w.alloc (.cells #[.int .i64 t.s.id, .slice t.As t.s.cols.length t.cs, .int .i64 t.s.next, .int .i64 t.sid, .slice t.Af t.fs.length t.cf, .slice t.Ar t.rs.length t.cr] 30)).alloc (.cells #[.int .i64 o.kind, .string o.txn, .slice o.Ac o.cols.length o.cc, .slice o.Ar o.rows.length o.cr, .slice o.An o.ns.length o.cn, .string o.col, .string o.name, .int .i64 o.ck, .int .i64 o.v.kind, .int .i64 o.v.i, .bool o.v.b, .string o.v.s, .slice o.Af o.fs.length o.cf, .int .i64 o.ver, .int .i64 o.time, .int .i64 o.agg] 38)).alloc (.cells #[.int .i64 0, .slice none 0 0, .int .i64 0, .int .i64 0, .slice none 0 0, .slice none 0 0] 30)).alloc (.cells #[.int .i64 0] 3) := ⟨_, rfl⟩
  have SW : Step w W := by rw [hW]; exact Step.of
  have HT : Hid (Blk W w.heap.size 30 [.int .i64 t.s.id, .slice t.As t.s.cols.length t.cs, .int .i64 t.s.next, .int .i64 t.sid, .slice t.Af t.fs.length t.cf, .slice t.Ar t.rs.length t.cr]) := by rw [hW]; exact (((Blk.new w _ 30).alloc _).alloc _).alloc _
  have HO : Hid (Blk W (w.heap.size + 1) 38 [.int .i64 o.kind, .string o.txn, .slice o.Ac o.cols.length o.cc, .slice o.Ar o.rows.length o.cr, .slice o.An o.ns.length o.cn, .string o.col, .string o.name, .int .i64 o.ck, .int .i64 o.v.kind, .int .i64 o.v.i, .bool o.v.b, .string o.v.s, .slice o.Af o.fs.length o.cf, .int .i64 o.ver, .int .i64 o.time, .int .i64 o.agg]) := by rw [hW]; exact ((Blk.new_at (by simp) _ 38).alloc _).alloc _
  have HU : Hid (Blk W (w.heap.size + 2) 30 [.int .i64 0, .slice none 0 0, .int .i64 0, .int .i64 0, .slice none 0 0, .slice none 0 0]) := by rw [hW]; exact (Blk.new_at (by simp) _ 30).alloc _
  have HE : Hid (Blk W (w.heap.size + 3) 3 [.int .i64 0]) := by rw [hW]; exact Blk.new_at (by simp) _ 3
  have hzW : w.heap.size + 4 = W.heap.size := by rw [hW]; simp
  have HZW := hide hzW
  clear hzW
  have HRN := hide hrun
  rw [hm] at MY
  clear hm hrun
  go_enter_defers Tryz.func13, Tryz.ntmps13
  go_upto_region 1 with fail
  rw [← hW]
  clear hW
  obtain ⟨t0, t1, t2, t3, t4, t5⟩ := At.z6 (HT.out.fut (w' := W)).at0
  have lt_ := (HT.out.fut (w' := W)).lt
  obtain ⟨o0, o1, o2, o3, o4, o5, o6, o7, o8, o9, o10, o11, o12, o13, o14, o15⟩ := At.zOp (HO.out.fut (w' := W)).at0
  have lo := (HO.out.fut (w' := W)).lt
  go_upto_region 6 with (first | (go_at_call 19; (with_reducible refine (MY.out _ inferInstance).mono ?_); rintro e w3 ⟨rfl, hs3⟩; clear t0 t1 t2 t3 t4 t5 lt_ o0 o1 o2 o3 o4 o5 o6 o7 o8 o9 o10 o11 o12 o13 o14 o15 lo; obtain ⟨t0, t1, t2, t3, t4, t5⟩ := At.z6 (HT.out.fut (w' := w3)).at0; have lt_ := (HT.out.fut (w' := w3)).lt; obtain ⟨o0, o1, o2, o3, o4, o5, o6, o7, o8, o9, o10, o11, o12, o13, o14, o15⟩ := At.zOp (HO.out.fut (w' := w3)).at0; have lo := (HO.out.fut (w' := w3)).lt) | (go_at_call 41; (with_reducible refine (MC.out _ inferInstance).mono ?_); rintro e w4 ⟨Ac, cc, Af, cf, os, A', c', rfl, hos, hol, hown, hs4⟩; have HOS := hide hos; have HOL := hide hol; have HOW := hide hown; clear hos hol hown; have ub := HU.out.fut (w' := w4); obtain ⟨u0, u1, u2, u3, u4, u5⟩ := At.z6 ub.at0; have lu := ub.lt; have fu := ub.free; have eb := HE.out.fut (w' := w4); have e0 := At.z1 eb.at0; have le := eb.lt; have fe := eb.free; clear ub eb))
  clear t0 t1 t2 t3 t4 t5 lt_ o0 o1 o2 o3 o4 o5 o6 o7 o8 o9 o10 o11 o12 o13 o14 o15 lo u0 u1 u2 u3 u4 u5 lu fu e0 le fe
  obtain ⟨X1, hX1⟩ : ∃ x : World, x = w4.alloc (.cells #[.int .i64 t.s.id, .slice Ac t.s.cols.length cc, .int .i64 t.s.next, .int .i64 t.sid, .slice Af t.fs.length cf, .slice A' t.rs.length c'] 30) := ⟨_, rfl⟩
  have SX1 : Step w4 X1 := by rw [hX1]; exact Step.of
  have hz1 : X1.heap.size = w4.heap.size + 1 := by rw [hX1]; simp
  have HB1 : Hid (Blk X1 w4.heap.size 30 [.int .i64 t.s.id, .slice Ac t.s.cols.length cc, .int .i64 t.s.next, .int .i64 t.sid, .slice Af t.fs.length cf, .slice A' t.rs.length c']) := by rw [hX1]; exact Blk.new w4 _ 30
  rw [← hX1]
  obtain ⟨X2, hX2⟩ : ∃ x : World, x = X1.alloc (.cells #[.pointer (some ⟨w4.heap.size, 0, none⟩), .pointer (some ⟨w.heap.size + 1, 0, none⟩)] 86) := ⟨_, rfl⟩
  have SX2 : Step X1 X2 := by rw [hX2]; exact Step.of
  have HDB : Hid (Blk X2 (w4.heap.size + 1) 86 [.pointer (some ⟨w4.heap.size, 0, none⟩), .pointer (some ⟨w.heap.size + 1, 0, none⟩)]) := by rw [hX2]; exact Blk.new_at hz1 _ 86
  have HX2 := hide hX2
  have HZ1 := hide hz1
  have hg3 : w3.heap.size ≤ w4.heap.size := (fut w3 w4).size
  have hg4 : w4.heap.size ≤ X2.heap.size := (fut w4 X2).size
  have hNg : w.heap.size + 4 ≤ w3.heap.size := by have := (fut W w3).size; have := HZW.out; omega
  have HDR : Hid (Doer X2 w3.heap.size (w4.heap.size + 1) w4.heap.size (w.heap.size + 1) ⟨t.s, Ac, cc, t.sid, t.fs, Af, cf, os, A', c'⟩ o) := ⟨HDB.out, by
    show Blk _ _ _ [_, _, _, _, _, .slice A' os.length c']
    rw [HOL.out]
    exact HB1.out.fut, HO.out.fut, HOW.out.fut, hg3⟩
  have HRUN := hide (HRN.out w3.heap.size (w4.heap.size + 1) w4.heap.size (w.heap.size + 1) ⟨t.s, Ac, cc, t.sid, t.fs, Af, cf, os, A', c'⟩ X2 (Fut.mk' (fut w X2)) HDR.out (by simp only [TbA.tb]; rw [HOS.out]) (by omega))
  clear hX1 hX2 hz1
  go_wp2_with (go_at_call 44; rw [HX2.out.symm]; rw [show X1.heap.size = w4.heap.size + 1 from HZ1.out]; (with_reducible refine HRUN.out.mono ?_); rintro e w9 ⟨hmt, rfl⟩; have HMT := hide hmt; clear hmt)
  have E2 := (HE.out.fut (w' := X2)).below HMT.out.below (by omega)
  have T2 := (HT.out.fut (w' := X2)).below HMT.out.below (by omega)
  have U2 := (HU.out.fut (w' := X2)).below HMT.out.below (by omega)
  refine leaves_cons (f := 43) (args := #[.pointer (some ⟨w.heap.size + 3, 0, none⟩)]) (by simp) (by simp [go_sem]) ?_
  refine (catch_panicking (w.heap.size + 3) 3 0 c [] _ E2).mono ?_
  rintro e u' w'' ⟨rfl, rfl, rfl⟩
  have E3 := (E2.set_ 0 (.int .i64 c)).alloc (.cells #[.int .i64 c] 121)
  have T3 := (T2.far (p := ⟨w.heap.size + 3, 0, none⟩) (by simp) (.int .i64 c)).alloc (.cells #[.int .i64 c] 121)
  have U3 := (U2.far (p := ⟨w.heap.size + 3, 0, none⟩) (by simp) (.int .i64 c)).alloc (.cells #[.int .i64 c] 121)
  have b3 := ((fut w X2).trans (HMT.out.below.mono (by omega : w.heap.size ≤ w3.heap.size))).setCell (p := ⟨w.heap.size + 3, 0, none⟩) (by simp) (.int .i64 c)
  have b4 := b3.alloc b3.size (.cells #[.int .i64 c] 121)
  obtain ⟨Y, hY⟩ : ∃ y : World, y = (w9.setCell ⟨w.heap.size + 3, 0, none⟩ (.int .i64 c)).alloc (.cells #[.int .i64 c] 121) := ⟨_, rfl⟩
  rw [← hY] at E3 T3 U3 b4
  rw [← hY]
  clear hY b3
  haveI fY : Fut w Y := ⟨b4⟩
  haveI fY0 : Fut w0 Y := Fut.tr f0 fY
  refine leaves_cons (f := 42) (args := #[.pointer (some ⟨w.heap.size + 3, 0, none⟩), .pointer (some ⟨w.heap.size, 0, none⟩), .pointer (some ⟨w.heap.size + 2, 0, none⟩)]) (by simp [settle]) (by simp [go_sem]) ?_
  refine (clr25_yes (w0 := w0) (w.heap.size + 3) w.heap.size (w.heap.size + 2) 3 c hc t _ _ _ _ _ _ _ _ E3 T3 U3 hin rfl).mono ?_
  rintro e u' w'' ⟨rfl, rfl, t2, ht2, hU, hE, hown, hbel⟩
  have e0 := At.z1 hE.at0
  obtain ⟨c0, c1, c2, c3, c4, c5⟩ := At.z6 hU.at0
  have hfin := b4.trans (hbel.mono (by omega : w.heap.size ≤ w.heap.size + 2))
  simp [Leaves, settle, results, Tryz.results13, go_sem, e0, c0, c1, c2, c3, c4, c5]
  exact ⟨t2, rfl, ht2, hown.more b4.size, ⟨hfin⟩⟩

set_option maxRecDepth 100000 in
set_option maxHeartbeats 8000000 in
theorem apply_ok {w0 : World} (t : TbA) (o : OpA) (w : World) (hin : TbIn w0 t) [f0 : Fut w0 w] (hm : tabB t.tb = true) (h0 : ¬ o.kind < 0) (h8 : ¬ 8 < o.kind) (u : Tb)
    (hrun : ∀ (g D T O : Nat) (t' : TbA) (w' : World), Fut w w' → Doer w' g D T O t' o → t'.tb = t.tb → g ≤ w'.heap.size → Calls Tryz.prog 44 #[.pointer (some ⟨D, 0, none⟩)] w' fun e w'' => RunR g T w' (.ok u) e w'') :
    Calls Tryz.prog 13 #[.agg #[.int .i64 t.s.id, .slice t.As t.s.cols.length t.cs, .int .i64 t.s.next, .int .i64 t.sid, .slice t.Af t.fs.length t.cf, .slice t.Ar t.rs.length t.cr], .agg #[.int .i64 o.kind, .string o.txn, .slice o.Ac o.cols.length o.cc, .slice o.Ar o.rows.length o.cr, .slice o.An o.ns.length o.cn, .string o.col, .string o.name, .int .i64 o.ck, .int .i64 o.v.kind, .int .i64 o.v.i, .bool o.v.b, .string o.v.s, .slice o.Af o.fs.length o.cf, .int .i64 o.ver, .int .i64 o.time, .int .i64 o.agg]] w (ApplyR w (u, 0)) := by
  have MY := hide (fun (w' : World) (hq : Fut w w') => haveI := Fut.tr f0 hq; mmay_any t w' hin)
  have MC := hide (fun (w' : World) (hq : Fut w w') => haveI := Fut.tr f0 hq; mclone_any t w' hin)
  have hmf : ∀ (fn : Fn) (first cap : Array Value) (w : World), (Instr.makeFunc fn first cap).run Tryz.prog w = .ok (.func fn first cap) w := fun _ _ _ _ => rfl
  obtain ⟨W, hW⟩ : ∃ x : World, x = (((w.alloc (.cells #[.int .i64 t.s.id, .slice t.As t.s.cols.length t.cs, .int .i64 t.s.next, .int .i64 t.sid, .slice t.Af t.fs.length t.cf, .slice t.Ar t.rs.length t.cr] 30)).alloc (.cells #[.int .i64 o.kind, .string o.txn, .slice o.Ac o.cols.length o.cc, .slice o.Ar o.rows.length o.cr, .slice o.An o.ns.length o.cn, .string o.col, .string o.name, .int .i64 o.ck, .int .i64 o.v.kind, .int .i64 o.v.i, .bool o.v.b, .string o.v.s, .slice o.Af o.fs.length o.cf, .int .i64 o.ver, .int .i64 o.time, .int .i64 o.agg] 38)).alloc (.cells #[.int .i64 0, .slice none 0 0, .int .i64 0, .int .i64 0, .slice none 0 0, .slice none 0 0] 30)).alloc (.cells #[.int .i64 0] 3) := ⟨_, rfl⟩
  have SW : Step w W := by rw [hW]; exact Step.of
  have HT : Hid (Blk W w.heap.size 30 [.int .i64 t.s.id, .slice t.As t.s.cols.length t.cs, .int .i64 t.s.next, .int .i64 t.sid, .slice t.Af t.fs.length t.cf, .slice t.Ar t.rs.length t.cr]) := by rw [hW]; exact (((Blk.new w _ 30).alloc _).alloc _).alloc _
  have HO : Hid (Blk W (w.heap.size + 1) 38 [.int .i64 o.kind, .string o.txn, .slice o.Ac o.cols.length o.cc, .slice o.Ar o.rows.length o.cr, .slice o.An o.ns.length o.cn, .string o.col, .string o.name, .int .i64 o.ck, .int .i64 o.v.kind, .int .i64 o.v.i, .bool o.v.b, .string o.v.s, .slice o.Af o.fs.length o.cf, .int .i64 o.ver, .int .i64 o.time, .int .i64 o.agg]) := by rw [hW]; exact ((Blk.new_at (by simp) _ 38).alloc _).alloc _
  have HU : Hid (Blk W (w.heap.size + 2) 30 [.int .i64 0, .slice none 0 0, .int .i64 0, .int .i64 0, .slice none 0 0, .slice none 0 0]) := by rw [hW]; exact (Blk.new_at (by simp) _ 30).alloc _
  have HE : Hid (Blk W (w.heap.size + 3) 3 [.int .i64 0]) := by rw [hW]; exact Blk.new_at (by simp) _ 3
  have hzW : w.heap.size + 4 = W.heap.size := by rw [hW]; simp
  have HZW := hide hzW
  clear hzW
  have HRN := hide hrun
  rw [hm] at MY
  clear hm hrun
  go_enter_defers Tryz.func13, Tryz.ntmps13
  go_upto_region 1 with fail
  rw [← hW]
  clear hW
  obtain ⟨t0, t1, t2, t3, t4, t5⟩ := At.z6 (HT.out.fut (w' := W)).at0
  have lt_ := (HT.out.fut (w' := W)).lt
  obtain ⟨o0, o1, o2, o3, o4, o5, o6, o7, o8, o9, o10, o11, o12, o13, o14, o15⟩ := At.zOp (HO.out.fut (w' := W)).at0
  have lo := (HO.out.fut (w' := W)).lt
  go_upto_region 6 with (first | (go_at_call 19; (with_reducible refine (MY.out _ inferInstance).mono ?_); rintro e w3 ⟨rfl, hs3⟩; clear t0 t1 t2 t3 t4 t5 lt_ o0 o1 o2 o3 o4 o5 o6 o7 o8 o9 o10 o11 o12 o13 o14 o15 lo; obtain ⟨t0, t1, t2, t3, t4, t5⟩ := At.z6 (HT.out.fut (w' := w3)).at0; have lt_ := (HT.out.fut (w' := w3)).lt; obtain ⟨o0, o1, o2, o3, o4, o5, o6, o7, o8, o9, o10, o11, o12, o13, o14, o15⟩ := At.zOp (HO.out.fut (w' := w3)).at0; have lo := (HO.out.fut (w' := w3)).lt) | (go_at_call 41; (with_reducible refine (MC.out _ inferInstance).mono ?_); rintro e w4 ⟨Ac, cc, Af, cf, os, A', c', rfl, hos, hol, hown, hs4⟩; have HOS := hide hos; have HOL := hide hol; have HOW := hide hown; clear hos hol hown; have ub := HU.out.fut (w' := w4); obtain ⟨u0, u1, u2, u3, u4, u5⟩ := At.z6 ub.at0; have lu := ub.lt; have fu := ub.free; have eb := HE.out.fut (w' := w4); have e0 := At.z1 eb.at0; have le := eb.lt; have fe := eb.free; clear ub eb))
  clear t0 t1 t2 t3 t4 t5 lt_ o0 o1 o2 o3 o4 o5 o6 o7 o8 o9 o10 o11 o12 o13 o14 o15 lo u0 u1 u2 u3 u4 u5 lu fu e0 le fe
  obtain ⟨X1, hX1⟩ : ∃ x : World, x = w4.alloc (.cells #[.int .i64 t.s.id, .slice Ac t.s.cols.length cc, .int .i64 t.s.next, .int .i64 t.sid, .slice Af t.fs.length cf, .slice A' t.rs.length c'] 30) := ⟨_, rfl⟩
  have SX1 : Step w4 X1 := by rw [hX1]; exact Step.of
  have hz1 : X1.heap.size = w4.heap.size + 1 := by rw [hX1]; simp
  have HB1 : Hid (Blk X1 w4.heap.size 30 [.int .i64 t.s.id, .slice Ac t.s.cols.length cc, .int .i64 t.s.next, .int .i64 t.sid, .slice Af t.fs.length cf, .slice A' t.rs.length c']) := by rw [hX1]; exact Blk.new w4 _ 30
  rw [← hX1]
  obtain ⟨X2, hX2⟩ : ∃ x : World, x = X1.alloc (.cells #[.pointer (some ⟨w4.heap.size, 0, none⟩), .pointer (some ⟨w.heap.size + 1, 0, none⟩)] 86) := ⟨_, rfl⟩
  have SX2 : Step X1 X2 := by rw [hX2]; exact Step.of
  have HDB : Hid (Blk X2 (w4.heap.size + 1) 86 [.pointer (some ⟨w4.heap.size, 0, none⟩), .pointer (some ⟨w.heap.size + 1, 0, none⟩)]) := by rw [hX2]; exact Blk.new_at hz1 _ 86
  have HX2 := hide hX2
  have HZ1 := hide hz1
  have hg3 : w3.heap.size ≤ w4.heap.size := (fut w3 w4).size
  have hg4 : w4.heap.size ≤ X2.heap.size := (fut w4 X2).size
  have hNg : w.heap.size + 4 ≤ w3.heap.size := by have := (fut W w3).size; have := HZW.out; omega
  have HDR : Hid (Doer X2 w3.heap.size (w4.heap.size + 1) w4.heap.size (w.heap.size + 1) ⟨t.s, Ac, cc, t.sid, t.fs, Af, cf, os, A', c'⟩ o) := ⟨HDB.out, by
    show Blk _ _ _ [_, _, _, _, _, .slice A' os.length c']
    rw [HOL.out]
    exact HB1.out.fut, HO.out.fut, HOW.out.fut, hg3⟩
  have HRUN := hide (HRN.out w3.heap.size (w4.heap.size + 1) w4.heap.size (w.heap.size + 1) ⟨t.s, Ac, cc, t.sid, t.fs, Af, cf, os, A', c'⟩ X2 (Fut.mk' (fut w X2)) HDR.out (by simp only [TbA.tb]; rw [HOS.out]) (by omega))
  clear hX1 hX2 hz1
  go_wp2_with (go_at_call 44; rw [HX2.out.symm]; rw [show X1.heap.size = w4.heap.size + 1 from HZ1.out]; (with_reducible refine HRUN.out.mono ?_); rintro e w9 ⟨hmt, rfl, t2, ht2, htb, hown⟩; have HMT := hide hmt; have HT2 := hide ht2; have HTB := hide htb; have HOW2 := hide hown; have E2 := (HE.out.fut (w' := X2)).below hmt.below (by omega); have U2 := (HU.out.fut (w' := X2)).below hmt.below (by omega); have HE2 := hide E2; have HU2 := hide U2; have e0 := At.z1 E2.at0; have le := E2.lt; have fe := E2.free; obtain ⟨u0, u1, u2, u3, u4, u5⟩ := At.z6 U2.at0; have lu := U2.lt; have fu := U2.free; obtain ⟨t0, t1, t2_, t3, t4, t5⟩ := At.z6 htb.at0; have lt_ := htb.lt; clear hmt ht2 htb hown E2 U2)
  have HF := HOW2.out.set6 HU2.out (.int .i64 t2.s.id) (.slice t2.As t2.s.cols.length t2.cs) (.int .i64 t2.s.next) (.int .i64 t2.sid) (.slice t2.Af t2.fs.length t2.cf) (.slice t2.Ar t2.rs.length t2.cr)
  have HB := set6D_blk HU2.out (.int .i64 t2.s.id) (.slice t2.As t2.s.cols.length t2.cs) (.int .i64 t2.s.next) (.int .i64 t2.sid) (.slice t2.Af t2.fs.length t2.cf) (.slice t2.Ar t2.rs.length t2.cr)
  have HE3 := set6D_far HE2.out (b := w.heap.size + 2) (by omega) (.int .i64 t2.s.id) (.slice t2.As t2.s.cols.length t2.cs) (.int .i64 t2.s.next) (.int .i64 t2.sid) (.slice t2.Af t2.fs.length t2.cf) (.slice t2.Ar t2.rs.length t2.cr)
  have HF2 := HF.grownE HE3 (by decide) (grown_setCell _ (w.heap.size + 3) 0 (.int .i64 0))
  have HB2 := HB.far (p := ⟨w.heap.size + 3, 0, none⟩) (by simp) (.int .i64 0)
  have HE4 := HE3.set_ 0 (.int .i64 0)
  have b2 := (set6D_below ((fut w X2).trans (HMT.out.below.mono (by omega : w.heap.size ≤ w3.heap.size))) (show w.heap.size ≤ w.heap.size + 2 by omega) (.int .i64 t2.s.id) (.slice t2.As t2.s.cols.length t2.cs) (.int .i64 t2.s.next) (.int .i64 t2.sid) (.slice t2.Af t2.fs.length t2.cf) (.slice t2.Ar t2.rs.length t2.cr)).setCell (p := ⟨w.heap.size + 3, 0, none⟩) (by simp) (.int .i64 0)
  obtain ⟨Y, hY⟩ : ∃ y : World, y = (set6D w9 (w.heap.size + 2) (.int .i64 t2.s.id) (.slice t2.As t2.s.cols.length t2.cs) (.int .i64 t2.s.next) (.int .i64 t2.sid) (.slice t2.Af t2.fs.length t2.cf) (.slice t2.Ar t2.rs.length t2.cr)).setCell ⟨w.heap.size + 3, 0, none⟩ (.int .i64 0) := ⟨_, rfl⟩
  rw [← hY] at HF2 HB2 HE4 b2
  unfold set6D at hY
  rw [← hY]
  clear hY e0 le fe u0 u1 u2 u3 u4 u5 lu fu t0 t1 t2_ t3 t4 t5 lt_
  refine leaves_cons (f := 43) (args := #[.pointer (some ⟨w.heap.size + 3, 0, none⟩)]) (by simp) (by simp [go_sem]) ?_
  refine (catch_idle _ _).mono ?_
  rintro e u' w'' ⟨rfl, rfl, rfl⟩
  refine leaves_cons (f := 42) (args := #[.pointer (some ⟨w.heap.size + 3, 0, none⟩), .pointer (some ⟨w.heap.size, 0, none⟩), .pointer (some ⟨w.heap.size + 2, 0, none⟩)]) (by simp [settle]) (by simp [go_sem]) ?_
  refine (clr25_no (w.heap.size + 3) w.heap.size (w.heap.size + 2) 3 _ _ HE4).mono ?_
  rintro e u' w'' ⟨rfl, rfl, rfl⟩
  have e0 := At.z1 HE4.at0
  obtain ⟨c0, c1, c2, c3, c4, c5⟩ := At.z6 HB2.at0
  simp [Leaves, settle, results, Tryz.results13, go_sem, e0, c0, c1, c2, c3, c4, c5]
  exact ⟨t2, rfl, HT2.out, HF2.more (by omega), ⟨b2⟩⟩
end Go.Proofs.YtnphokhehacfnaaGreatDoor

