/-
  Texts put together: Dp, Xl, Da.
-/
import Derived.Test.YtnphokhehacfnaaGreatDoorCz01
import Derived.Test.YtnphokhehacfnaaGreatDoorCz02
import Derived.Test.YtnphokhehacfnaaGreatDoorCz03
import Derived.Test.YtnphokhehacfnaaGreatDoorCz06
import Derived.Test.YtnphokhehacfnaaGreatDoorCz07
import Derived.Test.YtnphokhehacfnaaGreatDoorCz10
import Derived.Test.YtnphokhehacfnaaGreatDoorCz12
import Derived.Test.YtnphokhehacfnaaGreatDoorCz14
namespace Go.Proofs.YtnphokhehacfnaaGreatDoor
open Go.RowKit

def set7D (w : World) (g : Nat) (a b c d e f h : Value) : World := ((((((w.setCell ⟨g, 0, none⟩ a).setCell ⟨g, 1, none⟩ b).setCell ⟨g, 2, none⟩ c).setCell ⟨g, 3, none⟩ d).setCell ⟨g, 4, none⟩ e).setCell ⟨g, 5, none⟩ f).setCell ⟨g, 6, none⟩ h
theorem set7D_grown (w : World) (g : Nat) (a b c d e f h : Value) : w.grownBy (set7D w g a b c d e f h) (some g) := ((((((grown_setCell w g 0 a).trans (grown_setCell _ g 1 b)).trans (grown_setCell _ g 2 c)).trans (grown_setCell _ g 3 d)).trans (grown_setCell _ g 4 e)).trans (grown_setCell _ g 5 f)).trans (grown_setCell _ g 6 h)
theorem set7D_blk {w : World} {g : Nat} {e : TypeId} {x0 x1 x2 x3 x4 x5 x6 : Value} (h : Blk w g e [x0, x1, x2, x3, x4, x5, x6]) (a b c d y f z : Value) : Blk (set7D w g a b c d y f z) g e [a, b, c, d, y, f, z] := ((((((h.set_ 0 a).set_ 1 b).set_ 2 c).set_ 3 d).set_ 4 y).set_ 5 f).set_ 6 z
theorem set7D_below {B : Nat} {w W : World} {g : Nat} (h : Below B w W) (hg : B ≤ g) (a b c d e f y : Value) : Below B w (set7D W g a b c d e f y) := ((((((h.setCell (p := ⟨g, 0, none⟩) hg a).setCell (p := ⟨g, 1, none⟩) hg b).setCell (p := ⟨g, 2, none⟩) hg c).setCell (p := ⟨g, 3, none⟩) hg d).setCell (p := ⟨g, 4, none⟩) hg e).setCell (p := ⟨g, 5, none⟩) hg f).setCell (p := ⟨g, 6, none⟩) hg y
theorem set7D_far {w : World} {g b : Nat} {e : TypeId} {cs : List Value} (h : Blk w g e cs) (hb : g ≠ b) (x0 x1 x2 x3 x4 x5 x6 : Value) : Blk (set7D w b x0 x1 x2 x3 x4 x5 x6) g e cs := h.grown (set7D_grown w b x0 x1 x2 x3 x4 x5 x6) (by intro hh; injection hh with hh; exact hb hh)
def ansV (c : Int) (v : Val) : Value := .agg #[.int .i64 c, .slice none 0 0, .slice none 0 0, .int .i64 v.kind, .int .i64 v.i, .bool v.b, .string v.s]
/-- What a read of an aggregate answers: a code and a value. -/
def readT (t : Tb) (o : Opp) : Int × Val := if tabB t = false then (9, Val.zero) else match readA t o with | .error c => (c, Val.zero) | .ok v => (0, v)
set_option maxRecDepth 100000 in
set_option maxHeartbeats 4000000 in
theorem clrR_no (pe po : Nat) (te : TypeId) (u : FrameMode) (w : World) (he : Blk w pe te [.int .i64 0]) :
    CallsD Tryz.prog 74 #[.pointer (some ⟨pe, 0, none⟩), .pointer (some ⟨po, 0, none⟩)] u w fun e u' w' => e = .returned (.tuple #[]) ∧ u' = u ∧ w' = w := by
  have q0 := At.z1 he.at0
  have lq := he.lt
  clear he
  refine (callsD_of_wp (R := fun e w' => e = .returned (.tuple #[]) ∧ w' = w) Tryz.func74 rfl ?_).mono (fun e u' w' h => ⟨h.2.1, h.1, h.2.2⟩)
  change Code.wp Tryz.prog _ _ { tmps := #[.pointer (some ⟨pe, 0, none⟩), .pointer (some ⟨po, 0, none⟩), undef, undef, undef, undef], defers := [] } w
  go_wp2_with fail
  go_end0
  exact ⟨rfl, rfl⟩
set_option maxRecDepth 100000 in
set_option maxHeartbeats 4000000 in
theorem clrR_yes (pe po : Nat) (te to_ : TypeId) (c : Int) (hc : c ≠ 0) (x0 x1 x2 x3 x4 x5 x6 : Value) (u : FrameMode) (w : World) (he : Blk w pe te [.int .i64 c]) (ho : Blk w po to_ [x0, x1, x2, x3, x4, x5, x6]) :
    CallsD Tryz.prog 74 #[.pointer (some ⟨pe, 0, none⟩), .pointer (some ⟨po, 0, none⟩)] u w fun e u' w' => e = .returned (.tuple #[]) ∧ u' = u ∧ w' = set7D w po (.int .i64 c) (.slice none 0 0) (.slice none 0 0) (.int .i64 0) (.int .i64 0) (.bool false) (.string ⟨#[]⟩) := by
  have q0 := At.z1 he.at0
  have lq := he.lt
  obtain ⟨c0, c1, c2, c3, c4, c5, c6⟩ := At.z7 ho.at0
  have lc := ho.lt
  have fc := ho.free
  clear he ho
  have hcb : (c != 0) = true := bne_iff_ne.2 hc
  refine (callsD_of_wp (R := fun e w' => e = .returned (.tuple #[]) ∧ w' = set7D w po (.int .i64 c) (.slice none 0 0) (.slice none 0 0) (.int .i64 0) (.int .i64 0) (.bool false) (.string ⟨#[]⟩)) Tryz.func74 rfl ?_).mono (fun e u' w' h => ⟨h.2.1, h.1, h.2.2⟩)
  change Code.wp Tryz.prog _ _ { tmps := #[.pointer (some ⟨pe, 0, none⟩), .pointer (some ⟨po, 0, none⟩), undef, undef, undef, undef], defers := [] } w
  go_wp2_with fail
  go_end0
  exact ⟨rfl, rfl⟩
set_option maxRecDepth 100000 in
set_option maxHeartbeats 8000000 in
theorem read_form {w0 : World} (t : TbA) (o : OpA) (w : World) (hin : TbIn w0 t) [f0 : Fut w0 w] (hm : tabB t.tb = false) :
    Calls Tryz.prog 32 #[.agg #[.int .i64 t.s.id, .slice t.As t.s.cols.length t.cs, .int .i64 t.s.next, .int .i64 t.sid, .slice t.Af t.fs.length t.cf, .slice t.Ar t.rs.length t.cr], .agg #[.int .i64 o.kind, .string o.txn, .slice o.Ac o.cols.length o.cc, .slice o.Ar o.rows.length o.cr, .slice o.An o.ns.length o.cn, .string o.col, .string o.name, .int .i64 o.ck, .int .i64 o.v.kind, .int .i64 o.v.i, .bool o.v.b, .string o.v.s, .slice o.Af o.fs.length o.cf, .int .i64 o.ver, .int .i64 o.time, .int .i64 o.agg]] w fun e w' => e = .returned (.agg #[.int .i64 9, .slice none 0 0, .slice none 0 0, .int .i64 0, .int .i64 0, .bool false, .string ⟨#[]⟩]) ∧ Step w w' := by
  have MY := hide (fun (w' : World) (hq : Fut w w') => haveI := Fut.tr f0 hq; mmay_any t w' hin)
  have MC := hide (fun (w' : World) (hq : Fut w w') => haveI := Fut.tr f0 hq; mclone_any t w' hin)
  have hmf : ∀ (fn : Fn) (first cap : Array Value) (w : World), (Instr.makeFunc fn first cap).run Tryz.prog w = .ok (.func fn first cap) w := fun _ _ _ _ => rfl
  obtain ⟨W, hW⟩ : ∃ x : World, x = ((w.alloc (.cells #[.int .i64 t.s.id, .slice t.As t.s.cols.length t.cs, .int .i64 t.s.next, .int .i64 t.sid, .slice t.Af t.fs.length t.cf, .slice t.Ar t.rs.length t.cr] 30)).alloc (.cells #[.int .i64 o.kind, .string o.txn, .slice o.Ac o.cols.length o.cc, .slice o.Ar o.rows.length o.cr, .slice o.An o.ns.length o.cn, .string o.col, .string o.name, .int .i64 o.ck, .int .i64 o.v.kind, .int .i64 o.v.i, .bool o.v.b, .string o.v.s, .slice o.Af o.fs.length o.cf, .int .i64 o.ver, .int .i64 o.time, .int .i64 o.agg] 38)).alloc (.cells #[.int .i64 0, .slice none 0 0, .slice none 0 0, .int .i64 0, .int .i64 0, .bool false, .string ⟨#[]⟩] 59) := ⟨_, rfl⟩
  have SW : Step w W := by rw [hW]; exact Step.of
  have HT : Hid (Blk W w.heap.size 30 [.int .i64 t.s.id, .slice t.As t.s.cols.length t.cs, .int .i64 t.s.next, .int .i64 t.sid, .slice t.Af t.fs.length t.cf, .slice t.Ar t.rs.length t.cr]) := by rw [hW]; exact ((Blk.new w _ 30).alloc _).alloc _
  have HO : Hid (Blk W (w.heap.size + 1) 38 [.int .i64 o.kind, .string o.txn, .slice o.Ac o.cols.length o.cc, .slice o.Ar o.rows.length o.cr, .slice o.An o.ns.length o.cn, .string o.col, .string o.name, .int .i64 o.ck, .int .i64 o.v.kind, .int .i64 o.v.i, .bool o.v.b, .string o.v.s, .slice o.Af o.fs.length o.cf, .int .i64 o.ver, .int .i64 o.time, .int .i64 o.agg]) := by rw [hW]; exact (Blk.new_at (by simp) _ 38).alloc _
  have HU : Hid (Blk W (w.heap.size + 2) 59 [.int .i64 0, .slice none 0 0, .slice none 0 0, .int .i64 0, .int .i64 0, .bool false, .string ⟨#[]⟩]) := by rw [hW]; exact Blk.new_at (by simp) _ 59
  have hzW : w.heap.size + 3 = W.heap.size := by rw [hW]; simp
  have HZW := hide hzW
  clear hzW
  rw [hm] at MY
  clear hm
  go_enter_defers Tryz.func32, Tryz.ntmps32
  go_upto_region 1 with fail
  rw [← hW]
  clear hW
  obtain ⟨t0, t1, t2, t3, t4, t5⟩ := At.z6 (HT.out.fut (w' := W)).at0
  have lt_ := (HT.out.fut (w' := W)).lt
  have ub := HU.out.fut (w' := W)
  obtain ⟨u0, u1, u2, u3, u4, u5, u6⟩ := At.z7 ub.at0
  have lu := ub.lt
  have fu := ub.free
  clear ub
  go_wp2_with (clear u0 u1 u2 u3 u4 u5 u6 lu fu; (go_at_call 19; (with_reducible refine (MY.out _ inferInstance).mono ?_); rintro e w3 ⟨rfl, hs3⟩; clear t0 t1 t2 t3 t4 t5 lt_; obtain ⟨t0, t1, t2, t3, t4, t5⟩ := At.z6 (HT.out.fut (w' := w3)).at0; have lt_ := (HT.out.fut (w' := w3)).lt; have ub := HU.out.fut (w' := w3); obtain ⟨u0, u1, u2, u3, u4, u5, u6⟩ := At.z7 ub.at0; have lu := ub.lt; have fu := ub.free; clear ub))
  have hb2 : Below w.heap.size w _ := set7D_below (fut w w3) (show w.heap.size ≤ w.heap.size + 2 by omega) (.int .i64 9) (.slice none 0 0) (.slice none 0 0) (.int .i64 0) (.int .i64 0) (.bool false) (.string ⟨#[]⟩)
  simp [bodyPostD, Leaves, results, Tryz.results32, go_sem, u0, u1, u2, u3, u4, u5, u6]
  exact ⟨hb2⟩

set_option maxRecDepth 100000 in
set_option maxHeartbeats 8000000 in
theorem read_err {w0 : World} (t : TbA) (o : OpA) (w : World) (hin : TbIn w0 t) [f0 : Fut w0 w] (hm : tabB t.tb = true) (c : Int) (hc : c ≠ 0)
    (hrun : ∀ (g D T O U : Nat) (t' : TbA) (w' : World), Fut w w' → Doer w' g D T O t' o → Blk w' U 59 [.int .i64 0, .slice none 0 0, .slice none 0 0, .int .i64 0, .int .i64 0, .bool false, .string ⟨#[]⟩] → t'.tb = t.tb → Calls Tryz.prog 75 #[.pointer (some ⟨D, 0, none⟩), .pointer (some ⟨U, 0, none⟩)] w' fun e w'' => ReadA U w' (.error c) e w'') :
    Calls Tryz.prog 32 #[.agg #[.int .i64 t.s.id, .slice t.As t.s.cols.length t.cs, .int .i64 t.s.next, .int .i64 t.sid, .slice t.Af t.fs.length t.cf, .slice t.Ar t.rs.length t.cr], .agg #[.int .i64 o.kind, .string o.txn, .slice o.Ac o.cols.length o.cc, .slice o.Ar o.rows.length o.cr, .slice o.An o.ns.length o.cn, .string o.col, .string o.name, .int .i64 o.ck, .int .i64 o.v.kind, .int .i64 o.v.i, .bool o.v.b, .string o.v.s, .slice o.Af o.fs.length o.cf, .int .i64 o.ver, .int .i64 o.time, .int .i64 o.agg]] w fun e w' => e = .returned (.agg #[.int .i64 c, .slice none 0 0, .slice none 0 0, .int .i64 0, .int .i64 0, .bool false, .string ⟨#[]⟩]) ∧ Step w w' := by
  have MY := hide (fun (w' : World) (hq : Fut w w') => haveI := Fut.tr f0 hq; mmay_any t w' hin)
  have MC := hide (fun (w' : World) (hq : Fut w w') => haveI := Fut.tr f0 hq; mclone_any t w' hin)
  have hmf : ∀ (fn : Fn) (first cap : Array Value) (w : World), (Instr.makeFunc fn first cap).run Tryz.prog w = .ok (.func fn first cap) w := fun _ _ _ _ => rfl
  obtain ⟨W, hW⟩ : ∃ x : World, x = ((w.alloc (.cells #[.int .i64 t.s.id, .slice t.As t.s.cols.length t.cs, .int .i64 t.s.next, .int .i64 t.sid, .slice t.Af t.fs.length t.cf, .slice t.Ar t.rs.length t.cr] 30)).alloc (.cells #[.int .i64 o.kind, .string o.txn, .slice o.Ac o.cols.length o.cc, .slice o.Ar o.rows.length o.cr, .slice o.An o.ns.length o.cn, .string o.col, .string o.name, .int .i64 o.ck, .int .i64 o.v.kind, .int .i64 o.v.i, .bool o.v.b, .string o.v.s, .slice o.Af o.fs.length o.cf, .int .i64 o.ver, .int .i64 o.time, .int .i64 o.agg] 38)).alloc (.cells #[.int .i64 0, .slice none 0 0, .slice none 0 0, .int .i64 0, .int .i64 0, .bool false, .string ⟨#[]⟩] 59) := ⟨_, rfl⟩
  have SW : Step w W := by rw [hW]; exact Step.of
  have HT : Hid (Blk W w.heap.size 30 [.int .i64 t.s.id, .slice t.As t.s.cols.length t.cs, .int .i64 t.s.next, .int .i64 t.sid, .slice t.Af t.fs.length t.cf, .slice t.Ar t.rs.length t.cr]) := by rw [hW]; exact ((Blk.new w _ 30).alloc _).alloc _
  have HO : Hid (Blk W (w.heap.size + 1) 38 [.int .i64 o.kind, .string o.txn, .slice o.Ac o.cols.length o.cc, .slice o.Ar o.rows.length o.cr, .slice o.An o.ns.length o.cn, .string o.col, .string o.name, .int .i64 o.ck, .int .i64 o.v.kind, .int .i64 o.v.i, .bool o.v.b, .string o.v.s, .slice o.Af o.fs.length o.cf, .int .i64 o.ver, .int .i64 o.time, .int .i64 o.agg]) := by rw [hW]; exact (Blk.new_at (by simp) _ 38).alloc _
  have HU : Hid (Blk W (w.heap.size + 2) 59 [.int .i64 0, .slice none 0 0, .slice none 0 0, .int .i64 0, .int .i64 0, .bool false, .string ⟨#[]⟩]) := by rw [hW]; exact Blk.new_at (by simp) _ 59
  have hzW : w.heap.size + 3 = W.heap.size := by rw [hW]; simp
  have HZW := hide hzW
  clear hzW
  have HRN := hide hrun
  rw [hm] at MY
  clear hm hrun
  go_enter_defers Tryz.func32, Tryz.ntmps32
  go_upto_region 1 with fail
  rw [← hW]
  clear hW
  obtain ⟨t0, t1, t2, t3, t4, t5⟩ := At.z6 (HT.out.fut (w' := W)).at0
  have lt_ := (HT.out.fut (w' := W)).lt
  have ub := HU.out.fut (w' := W)
  obtain ⟨u0, u1, u2, u3, u4, u5, u6⟩ := At.z7 ub.at0
  have lu := ub.lt
  have fu := ub.free
  clear ub
  go_upto_region 4 with (clear u0 u1 u2 u3 u4 u5 u6 lu fu; (go_at_call 19; (with_reducible refine (MY.out _ inferInstance).mono ?_); rintro e w3 ⟨rfl, hs3⟩; clear t0 t1 t2 t3 t4 t5 lt_; obtain ⟨t0, t1, t2, t3, t4, t5⟩ := At.z6 (HT.out.fut (w' := w3)).at0; have lt_ := (HT.out.fut (w' := w3)).lt; have ub := HU.out.fut (w' := w3); obtain ⟨u0, u1, u2, u3, u4, u5, u6⟩ := At.z7 ub.at0; have lu := ub.lt; have fu := ub.free; clear ub))
  obtain ⟨W5, hW5⟩ : ∃ x : World, x = w3.alloc (.cells #[.int .i64 0] 3) := ⟨_, rfl⟩
  have SW5 : Step w3 W5 := by rw [hW5]; exact Step.of
  have HE : Hid (Blk W5 w3.heap.size 3 [.int .i64 0]) := by rw [hW5]; exact Blk.new w3 _ 3
  have hz5 : W5.heap.size = w3.heap.size + 1 := by rw [hW5]; simp
  have HZ5 := hide hz5
  rw [← hW5]
  clear hW5 hz5 u0 u1 u2 u3 u4 u5 u6 lu fu
  clear t0 t1 t2 t3 t4 t5 lt_
  obtain ⟨t0, t1, t2, t3, t4, t5⟩ := At.z6 (HT.out.fut (w' := W5)).at0
  have lt_ := (HT.out.fut (w' := W5)).lt
  have hNe : w.heap.size + 3 ≤ w3.heap.size := by have := (fut W w3).size; have := HZW.out; omega
  go_upto_region 7 with (go_at_call 41; (with_reducible refine (MC.out _ inferInstance).mono ?_); rintro e w4 ⟨Ac, cc, Af, cf, os, A', c', rfl, hos, hol, hown, hs4⟩; have HOS := hide hos; have HOL := hide hol; have HOW := hide hown; clear hos hol hown)
  clear t0 t1 t2 t3 t4 t5 lt_
  obtain ⟨X1, hX1⟩ : ∃ x : World, x = w4.alloc (.cells #[.int .i64 t.s.id, .slice Ac t.s.cols.length cc, .int .i64 t.s.next, .int .i64 t.sid, .slice Af t.fs.length cf, .slice A' t.rs.length c'] 30) := ⟨_, rfl⟩
  have SX1 : Step w4 X1 := by rw [hX1]; exact Step.of
  have hz1 : X1.heap.size = w4.heap.size + 1 := by rw [hX1]; simp
  have HB1 : Hid (Blk X1 w4.heap.size 30 [.int .i64 t.s.id, .slice Ac t.s.cols.length cc, .int .i64 t.s.next, .int .i64 t.sid, .slice Af t.fs.length cf, .slice A' t.rs.length c']) := by rw [hX1]; exact Blk.new w4 _ 30
  rw [← hX1]
  obtain ⟨X2, hX2⟩ : ∃ x : World, x = X1.alloc (.cells #[.pointer (some ⟨w4.heap.size, 0, none⟩), .pointer (some ⟨w.heap.size + 1, 0, none⟩)] 86) := ⟨_, rfl⟩
  have SX2 : Step X1 X2 := by rw [hX2]; exact Step.of
  have HDB : Hid (Blk X2 (w4.heap.size + 1) 86 [.pointer (some ⟨w4.heap.size, 0, none⟩), .pointer (some ⟨w.heap.size + 1, 0, none⟩)]) := by rw [hX2]; exact Blk.new_at hz1 _ 86
  have HX2 := hide hX2
  have HZ1 := hide hz1
  have hg3 : W5.heap.size ≤ w4.heap.size := (fut W5 w4).size
  have HDR : Hid (Doer X2 W5.heap.size (w4.heap.size + 1) w4.heap.size (w.heap.size + 1) ⟨t.s, Ac, cc, t.sid, t.fs, Af, cf, os, A', c'⟩ o) := ⟨HDB.out, by
    show Blk _ _ _ [_, _, _, _, _, .slice A' os.length c']
    rw [HOL.out]
    exact HB1.out.fut, HO.out.fut, HOW.out.fut, hg3⟩
  have HRUN := hide (HRN.out W5.heap.size (w4.heap.size + 1) w4.heap.size (w.heap.size + 1) (w.heap.size + 2) ⟨t.s, Ac, cc, t.sid, t.fs, Af, cf, os, A', c'⟩ X2 (Fut.mk' (fut w X2)) HDR.out HU.out.fut (by simp only [TbA.tb]; rw [HOS.out]))
  clear hX1 hX2 hz1
  go_wp2_with (go_at_call 75; rw [HX2.out.symm]; rw [show X1.heap.size = w4.heap.size + 1 from HZ1.out]; (with_reducible refine HRUN.out.mono ?_); rintro e w9 ⟨rfl, hs9⟩)
  have E2 := HE.out.fut (w' := w9)
  have U2 := HU.out.fut (w' := w9)
  refine leaves_cons (f := 43) (args := #[.pointer (some ⟨w3.heap.size, 0, none⟩)]) (by simp) (by simp [go_sem]) ?_
  refine (catch_panicking w3.heap.size 3 0 c [] _ E2).mono ?_
  rintro e u' w'' ⟨rfl, rfl, rfl⟩
  have E3 := (E2.set_ 0 (.int .i64 c)).alloc (.cells #[.int .i64 c] 121)
  have U3 := (U2.far (p := ⟨w3.heap.size, 0, none⟩) (by show w.heap.size + 2 ≠ w3.heap.size; omega) (.int .i64 c)).alloc (.cells #[.int .i64 c] 121)
  have b3 := (fut w w9).setCell (p := ⟨w3.heap.size, 0, none⟩) (by show w.heap.size ≤ w3.heap.size; omega) (.int .i64 c)
  have b4 := b3.alloc b3.size (.cells #[.int .i64 c] 121)
  obtain ⟨Y, hY⟩ : ∃ y : World, y = (w9.setCell ⟨w3.heap.size, 0, none⟩ (.int .i64 c)).alloc (.cells #[.int .i64 c] 121) := ⟨_, rfl⟩
  rw [← hY] at E3 U3 b4
  rw [← hY]
  clear hY b3
  refine leaves_cons (f := 74) (args := #[.pointer (some ⟨w3.heap.size, 0, none⟩), .pointer (some ⟨w.heap.size + 2, 0, none⟩)]) (by simp [settle]) (by simp [go_sem]) ?_
  refine (clrR_yes w3.heap.size (w.heap.size + 2) 3 59 c hc _ _ _ _ _ _ _ _ _ E3 U3).mono ?_
  rintro e u' w'' ⟨rfl, rfl, rfl⟩
  have B4 := set7D_blk U3 (.int .i64 c) (.slice none 0 0) (.slice none 0 0) (.int .i64 0) (.int .i64 0) (.bool false) (.string ⟨#[]⟩)
  have b5 := set7D_below b4 (show w.heap.size ≤ w.heap.size + 2 by omega) (.int .i64 c) (.slice none 0 0) (.slice none 0 0) (.int .i64 0) (.int .i64 0) (.bool false) (.string ⟨#[]⟩)
  obtain ⟨F, hF⟩ : ∃ F : World, F = set7D Y (w.heap.size + 2) (.int .i64 c) (.slice none 0 0) (.slice none 0 0) (.int .i64 0) (.int .i64 0) (.bool false) (.string ⟨#[]⟩) := ⟨_, rfl⟩
  rw [← hF] at B4 b5
  rw [← hF]
  obtain ⟨c0, c1, c2, c3, c4, c5, c6⟩ := At.z7 B4.at0
  simp [Leaves, settle, results, Tryz.results32, go_sem, c0, c1, c2, c3, c4, c5, c6]
  exact ⟨b5⟩

set_option maxRecDepth 100000 in
set_option maxHeartbeats 8000000 in
theorem read_ok {w0 : World} (t : TbA) (o : OpA) (w : World) (hin : TbIn w0 t) [f0 : Fut w0 w] (hm : tabB t.tb = true) (v : Val)
    (hrun : ∀ (g D T O U : Nat) (t' : TbA) (w' : World), Fut w w' → Doer w' g D T O t' o → Blk w' U 59 [.int .i64 0, .slice none 0 0, .slice none 0 0, .int .i64 0, .int .i64 0, .bool false, .string ⟨#[]⟩] → t'.tb = t.tb → Calls Tryz.prog 75 #[.pointer (some ⟨D, 0, none⟩), .pointer (some ⟨U, 0, none⟩)] w' fun e w'' => ReadA U w' (.ok v) e w'') :
    Calls Tryz.prog 32 #[.agg #[.int .i64 t.s.id, .slice t.As t.s.cols.length t.cs, .int .i64 t.s.next, .int .i64 t.sid, .slice t.Af t.fs.length t.cf, .slice t.Ar t.rs.length t.cr], .agg #[.int .i64 o.kind, .string o.txn, .slice o.Ac o.cols.length o.cc, .slice o.Ar o.rows.length o.cr, .slice o.An o.ns.length o.cn, .string o.col, .string o.name, .int .i64 o.ck, .int .i64 o.v.kind, .int .i64 o.v.i, .bool o.v.b, .string o.v.s, .slice o.Af o.fs.length o.cf, .int .i64 o.ver, .int .i64 o.time, .int .i64 o.agg]] w fun e w' => e = .returned (.agg #[.int .i64 0, .slice none 0 0, .slice none 0 0, .int .i64 v.kind, .int .i64 v.i, .bool v.b, .string v.s]) ∧ Step w w' := by
  have MY := hide (fun (w' : World) (hq : Fut w w') => haveI := Fut.tr f0 hq; mmay_any t w' hin)
  have MC := hide (fun (w' : World) (hq : Fut w w') => haveI := Fut.tr f0 hq; mclone_any t w' hin)
  have hmf : ∀ (fn : Fn) (first cap : Array Value) (w : World), (Instr.makeFunc fn first cap).run Tryz.prog w = .ok (.func fn first cap) w := fun _ _ _ _ => rfl
  obtain ⟨W, hW⟩ : ∃ x : World, x = ((w.alloc (.cells #[.int .i64 t.s.id, .slice t.As t.s.cols.length t.cs, .int .i64 t.s.next, .int .i64 t.sid, .slice t.Af t.fs.length t.cf, .slice t.Ar t.rs.length t.cr] 30)).alloc (.cells #[.int .i64 o.kind, .string o.txn, .slice o.Ac o.cols.length o.cc, .slice o.Ar o.rows.length o.cr, .slice o.An o.ns.length o.cn, .string o.col, .string o.name, .int .i64 o.ck, .int .i64 o.v.kind, .int .i64 o.v.i, .bool o.v.b, .string o.v.s, .slice o.Af o.fs.length o.cf, .int .i64 o.ver, .int .i64 o.time, .int .i64 o.agg] 38)).alloc (.cells #[.int .i64 0, .slice none 0 0, .slice none 0 0, .int .i64 0, .int .i64 0, .bool false, .string ⟨#[]⟩] 59) := ⟨_, rfl⟩
  have SW : Step w W := by rw [hW]; exact Step.of
  have HT : Hid (Blk W w.heap.size 30 [.int .i64 t.s.id, .slice t.As t.s.cols.length t.cs, .int .i64 t.s.next, .int .i64 t.sid, .slice t.Af t.fs.length t.cf, .slice t.Ar t.rs.length t.cr]) := by rw [hW]; exact ((Blk.new w _ 30).alloc _).alloc _
  have HO : Hid (Blk W (w.heap.size + 1) 38 [.int .i64 o.kind, .string o.txn, .slice o.Ac o.cols.length o.cc, .slice o.Ar o.rows.length o.cr, .slice o.An o.ns.length o.cn, .string o.col, .string o.name, .int .i64 o.ck, .int .i64 o.v.kind, .int .i64 o.v.i, .bool o.v.b, .string o.v.s, .slice o.Af o.fs.length o.cf, .int .i64 o.ver, .int .i64 o.time, .int .i64 o.agg]) := by rw [hW]; exact (Blk.new_at (by simp) _ 38).alloc _
  have HU : Hid (Blk W (w.heap.size + 2) 59 [.int .i64 0, .slice none 0 0, .slice none 0 0, .int .i64 0, .int .i64 0, .bool false, .string ⟨#[]⟩]) := by rw [hW]; exact Blk.new_at (by simp) _ 59
  have hzW : w.heap.size + 3 = W.heap.size := by rw [hW]; simp
  have HZW := hide hzW
  clear hzW
  have HRN := hide hrun
  rw [hm] at MY
  clear hm hrun
  go_enter_defers Tryz.func32, Tryz.ntmps32
  go_upto_region 1 with fail
  rw [← hW]
  clear hW
  obtain ⟨t0, t1, t2, t3, t4, t5⟩ := At.z6 (HT.out.fut (w' := W)).at0
  have lt_ := (HT.out.fut (w' := W)).lt
  have ub := HU.out.fut (w' := W)
  obtain ⟨u0, u1, u2, u3, u4, u5, u6⟩ := At.z7 ub.at0
  have lu := ub.lt
  have fu := ub.free
  clear ub
  go_upto_region 4 with (clear u0 u1 u2 u3 u4 u5 u6 lu fu; (go_at_call 19; (with_reducible refine (MY.out _ inferInstance).mono ?_); rintro e w3 ⟨rfl, hs3⟩; clear t0 t1 t2 t3 t4 t5 lt_; obtain ⟨t0, t1, t2, t3, t4, t5⟩ := At.z6 (HT.out.fut (w' := w3)).at0; have lt_ := (HT.out.fut (w' := w3)).lt; have ub := HU.out.fut (w' := w3); obtain ⟨u0, u1, u2, u3, u4, u5, u6⟩ := At.z7 ub.at0; have lu := ub.lt; have fu := ub.free; clear ub))
  obtain ⟨W5, hW5⟩ : ∃ x : World, x = w3.alloc (.cells #[.int .i64 0] 3) := ⟨_, rfl⟩
  have SW5 : Step w3 W5 := by rw [hW5]; exact Step.of
  have HE : Hid (Blk W5 w3.heap.size 3 [.int .i64 0]) := by rw [hW5]; exact Blk.new w3 _ 3
  have hz5 : W5.heap.size = w3.heap.size + 1 := by rw [hW5]; simp
  have HZ5 := hide hz5
  rw [← hW5]
  clear hW5 hz5 u0 u1 u2 u3 u4 u5 u6 lu fu
  clear t0 t1 t2 t3 t4 t5 lt_
  obtain ⟨t0, t1, t2, t3, t4, t5⟩ := At.z6 (HT.out.fut (w' := W5)).at0
  have lt_ := (HT.out.fut (w' := W5)).lt
  have hNe : w.heap.size + 3 ≤ w3.heap.size := by have := (fut W w3).size; have := HZW.out; omega
  go_upto_region 7 with (go_at_call 41; (with_reducible refine (MC.out _ inferInstance).mono ?_); rintro e w4 ⟨Ac, cc, Af, cf, os, A', c', rfl, hos, hol, hown, hs4⟩; have HOS := hide hos; have HOL := hide hol; have HOW := hide hown; clear hos hol hown)
  clear t0 t1 t2 t3 t4 t5 lt_
  obtain ⟨X1, hX1⟩ : ∃ x : World, x = w4.alloc (.cells #[.int .i64 t.s.id, .slice Ac t.s.cols.length cc, .int .i64 t.s.next, .int .i64 t.sid, .slice Af t.fs.length cf, .slice A' t.rs.length c'] 30) := ⟨_, rfl⟩
  have SX1 : Step w4 X1 := by rw [hX1]; exact Step.of
  have hz1 : X1.heap.size = w4.heap.size + 1 := by rw [hX1]; simp
  have HB1 : Hid (Blk X1 w4.heap.size 30 [.int .i64 t.s.id, .slice Ac t.s.cols.length cc, .int .i64 t.s.next, .int .i64 t.sid, .slice Af t.fs.length cf, .slice A' t.rs.length c']) := by rw [hX1]; exact Blk.new w4 _ 30
  rw [← hX1]
  obtain ⟨X2, hX2⟩ : ∃ x : World, x = X1.alloc (.cells #[.pointer (some ⟨w4.heap.size, 0, none⟩), .pointer (some ⟨w.heap.size + 1, 0, none⟩)] 86) := ⟨_, rfl⟩
  have SX2 : Step X1 X2 := by rw [hX2]; exact Step.of
  have HDB : Hid (Blk X2 (w4.heap.size + 1) 86 [.pointer (some ⟨w4.heap.size, 0, none⟩), .pointer (some ⟨w.heap.size + 1, 0, none⟩)]) := by rw [hX2]; exact Blk.new_at hz1 _ 86
  have HX2 := hide hX2
  have HZ1 := hide hz1
  have hg3 : W5.heap.size ≤ w4.heap.size := (fut W5 w4).size
  have HDR : Hid (Doer X2 W5.heap.size (w4.heap.size + 1) w4.heap.size (w.heap.size + 1) ⟨t.s, Ac, cc, t.sid, t.fs, Af, cf, os, A', c'⟩ o) := ⟨HDB.out, by
    show Blk _ _ _ [_, _, _, _, _, .slice A' os.length c']
    rw [HOL.out]
    exact HB1.out.fut, HO.out.fut, HOW.out.fut, hg3⟩
  have HRUN := hide (HRN.out W5.heap.size (w4.heap.size + 1) w4.heap.size (w.heap.size + 1) (w.heap.size + 2) ⟨t.s, Ac, cc, t.sid, t.fs, Af, cf, os, A', c'⟩ X2 (Fut.mk' (fut w X2)) HDR.out HU.out.fut (by simp only [TbA.tb]; rw [HOS.out]))
  clear hX1 hX2 hz1
  go_wp2_with (go_at_call 75; rw [HX2.out.symm]; rw [show X1.heap.size = w4.heap.size + 1 from HZ1.out]; (with_reducible refine HRUN.out.mono ?_); rintro e w9 ⟨rfl, w8, hs8, hw9⟩; have HB9 := hide (((((HU.out.fut (w' := w8)).set_ 3 (.int .i64 v.kind)).set_ 4 (.int .i64 v.i)).set_ 5 (.bool v.b)).set_ 6 (.string v.s)); have HE9 := hide (((((HE.out.fut (w' := w8)).far (p := ⟨w.heap.size + 2, 3, none⟩) (by show w3.heap.size ≠ w.heap.size + 2; omega) (.int .i64 v.kind)).far (p := ⟨w.heap.size + 2, 4, none⟩) (by show w3.heap.size ≠ w.heap.size + 2; omega) (.int .i64 v.i)).far (p := ⟨w.heap.size + 2, 5, none⟩) (by show w3.heap.size ≠ w.heap.size + 2; omega) (.bool v.b)).far (p := ⟨w.heap.size + 2, 6, none⟩) (by show w3.heap.size ≠ w.heap.size + 2; omega) (.string v.s)); have hb9 : Below w.heap.size w _ := ((((fut w w8).setCell (p := ⟨w.heap.size + 2, 3, none⟩) (by simp) (.int .i64 v.kind)).setCell (p := ⟨w.heap.size + 2, 4, none⟩) (by simp) (.int .i64 v.i)).setCell (p := ⟨w.heap.size + 2, 5, none⟩) (by simp) (.bool v.b)).setCell (p := ⟨w.heap.size + 2, 6, none⟩) (by simp) (.string v.s); rw [← hw9] at HB9 HE9 hb9; clear hw9; have hs9 : Step w w9 := ⟨hb9⟩; obtain ⟨u0, u1, u2, u3, u4, u5, u6⟩ := At.z7 HB9.out.at0; have lu := HB9.out.lt; have fu := HB9.out.free)
  have B4 := set7D_blk HB9.out (.int .i64 0) (.slice none 0 0) (.slice none 0 0) (.int .i64 v.kind) (.int .i64 v.i) (.bool v.b) (.string v.s)
  have E4 := set7D_far HE9.out (b := w.heap.size + 2) (by omega) (.int .i64 0) (.slice none 0 0) (.slice none 0 0) (.int .i64 v.kind) (.int .i64 v.i) (.bool v.b) (.string v.s)
  have b5 := set7D_below (fut w w9) (show w.heap.size ≤ w.heap.size + 2 by omega) (.int .i64 0) (.slice none 0 0) (.slice none 0 0) (.int .i64 v.kind) (.int .i64 v.i) (.bool v.b) (.string v.s)
  obtain ⟨Y, hY⟩ : ∃ y : World, y = set7D w9 (w.heap.size + 2) (.int .i64 0) (.slice none 0 0) (.slice none 0 0) (.int .i64 v.kind) (.int .i64 v.i) (.bool v.b) (.string v.s) := ⟨_, rfl⟩
  rw [← hY] at B4 E4 b5
  unfold set7D at hY
  rw [← hY]
  clear hY u0 u1 u2 u3 u4 u5 u6 lu fu
  refine leaves_cons (f := 43) (args := #[.pointer (some ⟨w3.heap.size, 0, none⟩)]) (by simp) (by simp [go_sem]) ?_
  refine (catch_idle _ _).mono ?_
  rintro e u' w'' ⟨rfl, rfl, rfl⟩
  refine leaves_cons (f := 74) (args := #[.pointer (some ⟨w3.heap.size, 0, none⟩), .pointer (some ⟨w.heap.size + 2, 0, none⟩)]) (by simp [settle]) (by simp [go_sem]) ?_
  refine (clrR_no w3.heap.size (w.heap.size + 2) 3 _ _ E4).mono ?_
  rintro e u' w'' ⟨rfl, rfl, rfl⟩
  obtain ⟨c0, c1, c2, c3, c4, c5, c6⟩ := At.z7 B4.at0
  simp [Leaves, settle, results, Tryz.results32, go_sem, c0, c1, c2, c3, c4, c5, c6]
  exact ⟨b5⟩
theorem of_tbR {t t' : TbA} (h : TbFine t) (he : t'.tb = t.tb) : TbFine t' := by
  have h1 : t'.s = t.s := congrArg Tb.s he
  have h2 : t'.fs = t.fs := congrArg Tb.fs he
  have h3 : t'.rs.map RowA.vs = t.rs.map RowA.vs := congrArg Tb.rows he
  have h4 : t'.rs.length = t.rs.length := by have := congrArg List.length h3; simpa using this
  exact ⟨by rw [h1]; exact h.clen, by rw [h1]; exact h.names, by rw [h2]; exact h.flen, by rw [h4]; exact h.rlen, by rw [h3]; exact h.vals⟩
theorem tb_smallR {t t' : TbA} (h : tabB t.tb = true) (he : t'.tb = t.tb) : t'.s.cols.length ≤ 12 ∧ t'.rs.length ≤ 4096 := by
  have h1 : t'.s = t.s := congrArg Tb.s he
  have h3 : t'.rs.map RowA.vs = t.rs.map RowA.vs := congrArg Tb.rows he
  have h4 : t'.rs.length = t.rs.length := by have := congrArg List.length h3; simpa using this
  obtain ⟨hm, _, hl, _⟩ := tabB_iff.1 h
  have hc := (addR_inv hm).2.2.2.2
  refine ⟨by rw [h1]; exact hc, ?_⟩
  rw [h4]
  simpa [TbA.tb] using hl
theorem readA_err {t : Tb} {o : Opp} {c : Int} (h : readA t o = .error c) : c ≠ 0 := by
  rw [read_eq] at h
  split at h
  · injection h with h; omega
  · split at h
    · rename_i hq
      unfold yesP at hq
      split at hq
      · injection hq with hq; injection h with h; omega
      · cases hq
    · unfold readB at h
      split at h
      · injection h with h; omega
      · split at h
        · injection h with h; omega
        · unfold readC at h
          split at h
          · injection h with h; omega
          · split at h
            · injection h with h; omega
            · cases h
/-- Read of an aggregate. -/
theorem readAgg {w0 w1 : World} (t : TbA) (o : OpA) (w : World) (hin : TbIn w0 t) (ho : OpIn w1 o) [f0 : Fut w0 w] [f1 : Fut w1 w] (hag : o.agg ≠ 0) (hfine : ∀ vs ∈ t.tb.rows, ∀ v ∈ vs, FineD v) :
    Calls Tryz.prog 32 #[t.val, .agg #[.int .i64 o.kind, .string o.txn, .slice o.Ac o.cols.length o.cc, .slice o.Ar o.rows.length o.cr, .slice o.An o.ns.length o.cn, .string o.col, .string o.name, .int .i64 o.ck, .int .i64 o.v.kind, .int .i64 o.v.i, .bool o.v.b, .string o.v.s, .slice o.Af o.fs.length o.cf, .int .i64 o.ver, .int .i64 o.time, .int .i64 o.agg]] w fun e w' => e = .returned (ansV (readT t.tb o.op).1 (readT t.tb o.op).2) ∧ Step w w' := by
  cases hm : tabB t.tb with
  | false =>
    rw [readT, if_pos hm]
    exact read_form t o w hin hm
  | true =>
    have hr : ∀ (g D T O U : Nat) (t' : TbA) (w' : World), Fut w w' → Doer w' g D T O t' o → Blk w' U 59 [.int .i64 0, .slice none 0 0, .slice none 0 0, .int .i64 0, .int .i64 0, .bool false, .string ⟨#[]⟩] → t'.tb = t.tb → Calls Tryz.prog 75 #[.pointer (some ⟨D, 0, none⟩), .pointer (some ⟨U, 0, none⟩)] w' fun e w'' => ReadA U w' (readA t.tb o.op) e w'' := by
      intro g D T O U t' w' hq hd hu he
      haveI := Fut.tr f1 hq
      have hs := tb_smallR hm he
      have hx : t'.rs.map RowA.vs = t.tb.rows := congrArg Tb.rows he
      rw [← he]
      exact readAgg_any g D T O U t' o _ _ _ _ _ _ _ w' hd hu ho (of_tbR hin.fine he) hs.2 (fun vs hvs => by
        rw [hx] at hvs
        have := List.all_eq_true.1 (tabB_iff.1 hm).2.2.2 vs hvs
        rw [rowW, Bool.and_eq_true, beq_iff_eq] at this
        rw [show t'.s = t.tb.s from congrArg Tb.s he]
        exact this.1) (fun vs hvs => hfine vs (by rw [hx] at hvs; exact hvs)) hag
    rw [readT, if_neg (by rw [hm]; simp)]
    cases hR : readA t.tb o.op with
    | error c =>
      rw [hR] at hr
      exact read_err t o w hin hm c (readA_err hR) hr
    | ok v =>
      rw [hR] at hr
      exact read_ok t o w hin hm v hr
end Go.Proofs.YtnphokhehacfnaaGreatDoor

namespace Go.Proofs.YtnphokhehacfnaaGreatDoor
open Go.RowKit

def namesC (cols : List Col) : List ByteArray := cols.map Col.name
theorem names_take {cols : List Col} {k : Nat} {c : Col} (h : cols[k]? = some c) : strCells (namesC (cols.take (k + 1))) = strCells (namesC (cols.take k)) ++ [[.string c.name]] := by
  rw [List.take_add_one, h]
  simp [namesC, strCells]
set_option maxRecDepth 100000 in
set_option maxHeartbeats 8000000 in
theorem pall_any {w1 : World} (T : Nat) (s : Sch) (A : Option Addr) (cap : Nat) (w : World) (hs : SchIn w1 s A cap) [f1 : Fut w1 w] (h1 : w.cell? ⟨T, 1, none⟩ = some (.slice A s.cols.length cap)) (_hT : T < w.heap.size) :
    Calls Tryz.prog 128 #[.pointer (some ⟨T, 0, none⟩)] w fun e w' => ∃ (A' : Option Addr) (c' : Nat), e = .returned (.slice A' s.cols.length c') ∧ Own w' w.heap.size 9 1 (.slice A' s.cols.length c') (strCells (namesC s.cols)) ∧ Step w w' := by
  have z1 := f1.below.size
  have hlen := hs.len; have hnm := hs.names
  have HNM := hide hnm
  clear hnm
  go_enter Tryz.func128, Tryz.ntmps128
  go_wp2_with fail
  go_loopw [3, 5, 11] (fun o _ i wr => ∃ (k : Nat) (A' : Option Addr) (c' : Nat), k ≤ s.cols.length ∧ o = .slice A' k c' ∧ i = .int .i64 k ∧ Own wr w.heap.size 9 1 (.slice A' k c') (strCells (namesC (s.cols.take k))) ∧ Step w wr) (fun _ _ i _ => s.cols.length - (intOf i).toNat)
  case atStart => exact ⟨0, none, 0, Nat.zero_le _, rfl, rfl, Own.nil_ _ _ _ _, Step.of⟩
  case round =>
    obtain ⟨k, A', c', hk, rfl, rfl, how, hst⟩ := hrel
    obtain ⟨wo, rfl⟩ : ∃ x : World, x = wr := ⟨_, rfl⟩
    have hzo := hst.size
    have HOW0 := hide how
    clear how
    by_cases hlt : k < s.cols.length
    · obtain ⟨bc, oc, hAc, hbc, hcc⟩ := hs.at_.elem (w' := wo) inferInstance (k := k) (by simpa using hlt)
      obtain ⟨c, hc⟩ : ∃ c, s.cols[k]? = some c := ⟨_, List.getElem?_eq_getElem hlt⟩
      obtain ⟨c0, c1, c2⟩ := At.l3 (hcc k c.cells (by simp [hc]))
      have HT := hide (names_take hc)
      have HTK : Hid ((strCells (namesC (s.cols.take k))).length = k) := by show _ = _; simp [strCells, namesC]; omega
      have hbW : bc < wo.heap.size := by have := (fut w wo).size; omega
      have hkl : (k : Int) < (s.cols.length : Int) := by omega
      have hk0 : (0 : Int) ≤ (k : Int) := by omega
      obtain ⟨W2, hW2⟩ : ∃ x : World, x = wo.alloc (.cells #[.int .i64 c.id, .string c.name, .int .i64 c.kind] 90) := ⟨_, rfl⟩
      have SW2 : Step wo W2 := by rw [hW2]; exact Step.of
      have HCB : Hid (Blk W2 wo.heap.size 90 [.int .i64 c.id, .string c.name, .int .i64 c.kind]) := by rw [hW2]; exact Blk.new wo _ _
      rw [hAc]
      clear hcc hc
      go_upto_region 5 with fail
      rw [← hW2]
      clear hW2 c0 c1 c2
      obtain ⟨x0, x1, x2⟩ := At.z3 HCB.out.at0
      have lx := HCB.out.lt
      go_wp2_with (at_builtin; have HOW := hide ((HOW0.out.fut (w' := W2)).alloc (.cells #[.string c.name] 9)); have HNew := hide (SlAt.one W2 1 [.string c.name] 9); go_loud (refine wpList_append_sl rfl (.tmp 15) (.tmp 18) 31 rfl eiTx (base := w.heap.size) (xs := strCells (namesC (s.cols.take k))) rfl HOW.out (txs_fit _) (ys := [[.string c.name]]) rfl (by simp) HNew.out (txs_fit [c.name]) (by rw [HTK.out]; show (k + 1) * 16 ≤ _; omega) (fut w (W2.alloc (.cells #[.string c.name] 9))).size (N := k + 1) (by rw [HTK.out]; rfl) ?_; intro A7 c7 w7 hq1 hq2 hown7 hgr7 hbel7; have H7 := hide hown7; have hs7 : Step w w7 := ⟨(fut w (W2.alloc (.cells #[.string c.name] 9))).trans hbel7⟩; clear hown7 hgr7 hbel7))
      go_roundw
      case rel => exact ⟨k + 1, A7, c7, by omega, rfl, by go_num, by rw [HT.out]; exact H7.out, hs7⟩
      case measure => simp [intOf]; omega
    · obtain rfl : k = s.cols.length := by omega
      have HF : Hid (Own wo w.heap.size 9 1 (.slice A' s.cols.length c') (strCells (namesC s.cols))) := by
        have := HOW0.out
        rwa [List.take_length] at this
      go_wp2_with fail
      go_ret
      exact ⟨A', c', rfl, HF.out.fut, Step.of⟩
end Go.Proofs.YtnphokhehacfnaaGreatDoor

namespace Go.Proofs.YtnphokhehacfnaaGreatDoor
open Go.RowKit

def eqV (x y : Val) : Bool := x.kind == y.kind && x.i == y.i && x.b == y.b && x.s.toList == y.s.toList
def eqVs (a b : List Val) : Bool := a.length == b.length && (a.zip b).all fun p => eqV p.1 p.2
def eqC (x y : Col) : Bool := x.id == y.id && x.name.toList == y.name.toList && x.kind == y.kind
def eqCs (a b : List Col) : Bool := a.length == b.length && (a.zip b).all fun p => eqC p.1 p.2
def eqF (x y : Fld) : Bool := x.source == y.source && x.trans == y.trans && x.param == y.param
def eqFs (a b : List Fld) : Bool := a.length == b.length && (a.zip b).all fun p => eqF p.1 p.2
set_option maxRecDepth 100000 in
set_option maxHeartbeats 4000000 in
theorem equal_any {w1 w2 : World} (a b : List Val) (A1 A2 : Option Addr) (c1 c2 : Nat) (w : World) (h1 : SlAt w1 w1.heap.size 4 A1 (a.map Val.cells)) (h2 : SlAt w2 w2.heap.size 4 A2 (b.map Val.cells)) [f1 : Fut w1 w] [f2 : Fut w2 w] (hl : a.length ≤ 4611686018427387904) :
    Calls Tryz.prog 65 #[.slice A1 a.length c1, .slice A2 b.length c2] w fun e w' => e = .returned (.bool (eqVs a b)) ∧ Step w w' := by
  have z1 := f1.below.size; have z2 := f2.below.size
  obtain ⟨T, hT⟩ : ∃ T, eqVs a b = T := ⟨_, rfl⟩
  have HT := hide hT
  rw [hT]
  clear hT
  by_cases hlen : a.length = b.length
  · have HL := hide hlen
    rw [← hlen]
    have HT : Hid (((a.zip b).all fun p => eqV p.1 p.2) = T) := by show _ = _; rw [← HT.out, eqVs, hlen]; simp
    clear hlen
    go_enter Tryz.func65, Tryz.ntmps65
    go_wp2_with fail
    go_loopw [5, 13] (fun _ i wr => ∃ k : Nat, k ≤ a.length ∧ i = .int .i64 k ∧ Hid ((((a.zip b).drop k).all fun p => eqV p.1 p.2) = T) ∧ Step w wr) (fun _ i _ => a.length - (intOf i).toNat)
    case atStart => exact ⟨0, Nat.zero_le _, rfl, HT.out, Step.of⟩
    case round =>
      clear HT
      obtain ⟨k, hk, rfl, HT, hst⟩ := hrel
      obtain ⟨wo, rfl⟩ : ∃ x : World, x = wr := ⟨_, rfl⟩
      have hzo := hst.size
      by_cases hlt : k < a.length
      · obtain ⟨b1, o1, hA1, hb1, hc1⟩ := h1.elem (w' := wo) inferInstance (k := k) (by simpa using hlt)
        obtain ⟨b2, o2, hA2, hb2, hc2⟩ := h2.elem (w' := wo) inferInstance (k := k) (by have := HL.out; simp; omega)
        obtain ⟨x, hx⟩ : ∃ x, a[k]? = some x := ⟨_, List.getElem?_eq_getElem hlt⟩
        obtain ⟨y, hy⟩ : ∃ y, b[k]? = some y := ⟨_, List.getElem?_eq_getElem (by have := HL.out; omega)⟩
        obtain ⟨p0, p1, p2, p3⟩ := At.l4 (hc1 k x.cells (by simp [hx]))
        obtain ⟨q0, q1, q2, q3⟩ := At.l4 (hc2 k y.cells (by simp [hy]))
        have l1 : b1 < wo.heap.size := by omega
        have l2 : b2 < wo.heap.size := by omega
        have hkl : (k : Int) < (a.length : Int) := by omega
        have hk0 : (0 : Int) ≤ (k : Int) := by omega
        have HT2 : Hid ((eqV x y && ((a.zip b).drop (k + 1)).all fun p => eqV p.1 p.2) = T) := by
          show _ = _
          have hz : (a.zip b)[k]? = some (x, y) := by rw [List.getElem?_zip_eq_some]; exact ⟨hx, hy⟩
          obtain ⟨hkz, hke⟩ := List.getElem?_eq_some_iff.1 hz
          rw [← HT.out, List.drop_eq_getElem_cons hkz, List.all_cons, hke]
        rw [hA1, hA2]
        clear hc1 hc2 hx hy hA1 hA2
        by_cases e0 : x.kind = y.kind
        · have g0 : (x.kind = y.kind) = True := eq_true e0
          by_cases e1 : x.i = y.i
          · have g1 : (x.i = y.i) = True := eq_true e1
            by_cases e2 : x.b = y.b
            · have g2 : (x.b = y.b) = True := eq_true e2
              by_cases e3 : x.s.toList = y.s.toList
              · have g3 : (x.s.toList = y.s.toList) = True := eq_true e3
                have HT3 : Hid ((((a.zip b).drop (k + 1)).all fun p => eqV p.1 p.2) = T) := by show _ = _; rw [← HT2.out, eqV, e0, e1, e2, e3]; simp
                clear e0 e1 e2 e3
                go_upto_region 6 with (fail)
                refine wp_region_held_drew (S := (fun w' => Step wo w' ∧ (∀ b o, b < wo.heap.size → w'.cell? ⟨b, o, none⟩ = wo.cell? ⟨b, o, none⟩))) (by kernel_rfl) (by (try dsimp only); (first | exact ⟨hS1, hS2⟩ | exact ⟨Step.of, (bcell (fut _ _)).1⟩)) (fun hHeld => ?_)
                refine wT 0 16 (by assumption) ?_
                refine wT 1 17 (by assumption) ?_
                refine wT 4 20 (by assumption) ?_
                refine wT 5 21 (by assumption) ?_
                refine wT 2 18 (by assumption) ?_
                refine wT 6 22 (by assumption) ?_
                refine wT 3 19 (by assumption) ?_
                refine wT 7 23 (by assumption) ?_
                refine wT 8 24 (by assumption) ?_
                refine wpAnyH_done (by kernel_rfl) ?_ _
                go_wp2_with fail
                go_roundw
                case rel => exact ⟨k + 1, by omega, by go_num, HT3.out, Step.of⟩
                case measure => simp [intOf]; omega
              · have g3 : (x.s.toList = y.s.toList) = False := eq_false e3
                obtain rfl : T = false := by rw [← HT2.out, eqV, beq_eq_false_iff_ne.2 e3]; simp
                clear e0 e1 e2 e3
                go_upto_region 6 with (fail)
                refine wp_region_held_drew (S := (fun w' => Step wo w' ∧ (∀ b o, b < wo.heap.size → w'.cell? ⟨b, o, none⟩ = wo.cell? ⟨b, o, none⟩))) (by kernel_rfl) (by (try dsimp only); (first | exact ⟨hS1, hS2⟩ | exact ⟨Step.of, (bcell (fut _ _)).1⟩)) (fun hHeld => ?_)
                refine wT 0 16 (by assumption) ?_
                refine wT 1 17 (by assumption) ?_
                refine wT 4 20 (by assumption) ?_
                refine wT 5 21 (by assumption) ?_
                refine wT 2 18 (by assumption) ?_
                refine wT 6 22 (by assumption) ?_
                refine wT 3 19 (by assumption) ?_
                refine wT 7 23 (by assumption) ?_
                refine wT 8 24 (by assumption) ?_
                refine wpAnyH_done (by kernel_rfl) ?_ _
                go_wp2_with fail
                go_ret
                exact ⟨rfl, Step.of⟩
            · have g2 : (x.b = y.b) = False := eq_false e2
              obtain rfl : T = false := by rw [← HT2.out, eqV, beq_eq_false_iff_ne.2 e2]; simp
              clear e0 e1 e2
              go_upto_region 6 with (fail)
              refine wp_region_held_drew (S := (fun w' => Step wo w' ∧ (∀ b o, b < wo.heap.size → w'.cell? ⟨b, o, none⟩ = wo.cell? ⟨b, o, none⟩))) (by kernel_rfl) (by (try dsimp only); (first | exact ⟨hS1, hS2⟩ | exact ⟨Step.of, (bcell (fut _ _)).1⟩)) (fun hHeld => ?_)
              refine wT 0 16 (by assumption) ?_
              refine wT 1 17 (by assumption) ?_
              refine wT 4 20 (by assumption) ?_
              refine wT 5 21 (by assumption) ?_
              refine wT 2 18 (by assumption) ?_
              refine wT 6 22 (by assumption) ?_
              refine wT 3 19 (by assumption) ?_
              refine wT 7 23 (by assumption) ?_
              refine wT 8 24 (by assumption) ?_
              refine wpAnyH_done (by kernel_rfl) ?_ _
              go_wp2_with fail
              go_ret
              exact ⟨rfl, Step.of⟩
          · have g1 : (x.i = y.i) = False := eq_false e1
            obtain rfl : T = false := by rw [← HT2.out, eqV, beq_eq_false_iff_ne.2 e1]; simp
            clear e0 e1
            go_upto_region 6 with (fail)
            refine wp_region_held_drew (S := (fun w' => Step wo w' ∧ (∀ b o, b < wo.heap.size → w'.cell? ⟨b, o, none⟩ = wo.cell? ⟨b, o, none⟩))) (by kernel_rfl) (by (try dsimp only); (first | exact ⟨hS1, hS2⟩ | exact ⟨Step.of, (bcell (fut _ _)).1⟩)) (fun hHeld => ?_)
            refine wT 0 16 (by assumption) ?_
            refine wT 1 17 (by assumption) ?_
            refine wT 4 20 (by assumption) ?_
            refine wT 5 21 (by assumption) ?_
            refine wT 2 18 (by assumption) ?_
            refine wT 6 22 (by assumption) ?_
            refine wT 3 19 (by assumption) ?_
            refine wT 7 23 (by assumption) ?_
            refine wT 8 24 (by assumption) ?_
            refine wpAnyH_done (by kernel_rfl) ?_ _
            go_wp2_with fail
            go_ret
            exact ⟨rfl, Step.of⟩
        · have g0 : (x.kind = y.kind) = False := eq_false e0
          obtain rfl : T = false := by rw [← HT2.out, eqV, beq_eq_false_iff_ne.2 e0]; simp
          clear e0
          go_upto_region 6 with (fail)
          refine wp_region_held_drew (S := (fun w' => Step wo w' ∧ (∀ b o, b < wo.heap.size → w'.cell? ⟨b, o, none⟩ = wo.cell? ⟨b, o, none⟩))) (by kernel_rfl) (by (try dsimp only); (first | exact ⟨hS1, hS2⟩ | exact ⟨Step.of, (bcell (fut _ _)).1⟩)) (fun hHeld => ?_)
          refine wT 0 16 (by assumption) ?_
          refine wT 1 17 (by assumption) ?_
          refine wT 4 20 (by assumption) ?_
          refine wT 5 21 (by assumption) ?_
          refine wT 2 18 (by assumption) ?_
          refine wT 6 22 (by assumption) ?_
          refine wT 3 19 (by assumption) ?_
          refine wT 7 23 (by assumption) ?_
          refine wT 8 24 (by assumption) ?_
          refine wpAnyH_done (by kernel_rfl) ?_ _
          go_wp2_with fail
          go_ret
          exact ⟨rfl, Step.of⟩
      · obtain rfl : k = a.length := by omega
        obtain rfl : T = true := by rw [← HT.out, List.drop_of_length_le (by rw [List.length_zip]; omega)]; rfl
        go_wp2_with fail
        go_ret
        exact ⟨rfl, Step.of⟩
  · obtain rfl : T = false := by rw [← HT.out, eqVs, beq_eq_false_iff_ne.2 hlen]; rfl
    have hb : ((a.length : Int) != (b.length : Int)) = true := by simp; omega
    go_enter Tryz.func65, Tryz.ntmps65
    go_wp2_with fail
    go_ret
    exact ⟨rfl, Step.of⟩
set_option maxRecDepth 100000 in
set_option maxHeartbeats 4000000 in
theorem equalC_any {w1 w2 : World} (a b : List Col) (A1 A2 : Option Addr) (c1 c2 : Nat) (w : World) (h1 : SlAt w1 w1.heap.size 3 A1 (a.map Col.cells)) (h2 : SlAt w2 w2.heap.size 3 A2 (b.map Col.cells)) [f1 : Fut w1 w] [f2 : Fut w2 w] (hl : a.length ≤ 4611686018427387904) :
    Calls Tryz.prog 60 #[.slice A1 a.length c1, .slice A2 b.length c2] w fun e w' => e = .returned (.bool (eqCs a b)) ∧ Step w w' := by
  have z1 := f1.below.size; have z2 := f2.below.size
  obtain ⟨T, hT⟩ : ∃ T, eqCs a b = T := ⟨_, rfl⟩
  have HT := hide hT
  rw [hT]
  clear hT
  by_cases hlen : a.length = b.length
  · have HL := hide hlen
    rw [← hlen]
    have HT : Hid (((a.zip b).all fun p => eqC p.1 p.2) = T) := by show _ = _; rw [← HT.out, eqCs, hlen]; simp
    clear hlen
    go_enter Tryz.func60, Tryz.ntmps60
    go_wp2_with fail
    go_loopw [5, 13] (fun _ i wr => ∃ k : Nat, k ≤ a.length ∧ i = .int .i64 k ∧ Hid ((((a.zip b).drop k).all fun p => eqC p.1 p.2) = T) ∧ Step w wr) (fun _ i _ => a.length - (intOf i).toNat)
    case atStart => exact ⟨0, Nat.zero_le _, rfl, HT.out, Step.of⟩
    case round =>
      clear HT
      obtain ⟨k, hk, rfl, HT, hst⟩ := hrel
      obtain ⟨wo, rfl⟩ : ∃ x : World, x = wr := ⟨_, rfl⟩
      have hzo := hst.size
      by_cases hlt : k < a.length
      · obtain ⟨b1, o1, hA1, hb1, hc1⟩ := h1.elem (w' := wo) inferInstance (k := k) (by simpa using hlt)
        obtain ⟨b2, o2, hA2, hb2, hc2⟩ := h2.elem (w' := wo) inferInstance (k := k) (by have := HL.out; simp; omega)
        obtain ⟨x, hx⟩ : ∃ x, a[k]? = some x := ⟨_, List.getElem?_eq_getElem hlt⟩
        obtain ⟨y, hy⟩ : ∃ y, b[k]? = some y := ⟨_, List.getElem?_eq_getElem (by have := HL.out; omega)⟩
        obtain ⟨p0, p1, p2⟩ := At.l3 (hc1 k x.cells (by simp [hx]))
        obtain ⟨q0, q1, q2⟩ := At.l3 (hc2 k y.cells (by simp [hy]))
        have l1 : b1 < wo.heap.size := by omega
        have l2 : b2 < wo.heap.size := by omega
        have hkl : (k : Int) < (a.length : Int) := by omega
        have hk0 : (0 : Int) ≤ (k : Int) := by omega
        have HT2 : Hid ((eqC x y && ((a.zip b).drop (k + 1)).all fun p => eqC p.1 p.2) = T) := by
          show _ = _
          have hz : (a.zip b)[k]? = some (x, y) := by rw [List.getElem?_zip_eq_some]; exact ⟨hx, hy⟩
          obtain ⟨hkz, hke⟩ := List.getElem?_eq_some_iff.1 hz
          rw [← HT.out, List.drop_eq_getElem_cons hkz, List.all_cons, hke]
        rw [hA1, hA2]
        clear hc1 hc2 hx hy hA1 hA2
        by_cases e0 : x.id = y.id
        · have g0 : (x.id = y.id) = True := eq_true e0
          by_cases e1 : x.name.toList = y.name.toList
          · have g1 : (x.name.toList = y.name.toList) = True := eq_true e1
            by_cases e2 : x.kind = y.kind
            · have g2 : (x.kind = y.kind) = True := eq_true e2
              have HT3 : Hid ((((a.zip b).drop (k + 1)).all fun p => eqC p.1 p.2) = T) := by show _ = _; rw [← HT2.out, eqC, e0, e1, e2]; simp
              clear e0 e1 e2
              go_upto_region 6 with (fail)
              refine wp_region_held_drew (S := (fun w' => Step wo w' ∧ (∀ b o, b < wo.heap.size → w'.cell? ⟨b, o, none⟩ = wo.cell? ⟨b, o, none⟩))) (by kernel_rfl) (by (try dsimp only); (first | exact ⟨hS1, hS2⟩ | exact ⟨Step.of, (bcell (fut _ _)).1⟩)) (fun hHeld => ?_)
              refine wT 0 16 (by assumption) ?_
              refine wT 1 17 (by assumption) ?_
              refine wT 4 20 (by assumption) ?_
              refine wT 5 21 (by assumption) ?_
              refine wT 2 18 (by assumption) ?_
              refine wT 6 22 (by assumption) ?_
              refine wT 3 19 (by assumption) ?_
              refine wT 7 23 (by assumption) ?_
              refine wT 8 24 (by assumption) ?_
              refine wpAnyH_done (by kernel_rfl) ?_ _
              go_wp2_with fail
              go_roundw
              case rel => exact ⟨k + 1, by omega, by go_num, HT3.out, Step.of⟩
              case measure => simp [intOf]; omega
            · have g2 : (x.kind = y.kind) = False := eq_false e2
              obtain rfl : T = false := by rw [← HT2.out, eqC, beq_eq_false_iff_ne.2 e2]; simp
              clear e0 e1 e2
              go_upto_region 6 with (fail)
              refine wp_region_held_drew (S := (fun w' => Step wo w' ∧ (∀ b o, b < wo.heap.size → w'.cell? ⟨b, o, none⟩ = wo.cell? ⟨b, o, none⟩))) (by kernel_rfl) (by (try dsimp only); (first | exact ⟨hS1, hS2⟩ | exact ⟨Step.of, (bcell (fut _ _)).1⟩)) (fun hHeld => ?_)
              refine wT 0 16 (by assumption) ?_
              refine wT 1 17 (by assumption) ?_
              refine wT 4 20 (by assumption) ?_
              refine wT 5 21 (by assumption) ?_
              refine wT 2 18 (by assumption) ?_
              refine wT 6 22 (by assumption) ?_
              refine wT 3 19 (by assumption) ?_
              refine wT 7 23 (by assumption) ?_
              refine wT 8 24 (by assumption) ?_
              refine wpAnyH_done (by kernel_rfl) ?_ _
              go_wp2_with fail
              go_ret
              exact ⟨rfl, Step.of⟩
          · have g1 : (x.name.toList = y.name.toList) = False := eq_false e1
            obtain rfl : T = false := by rw [← HT2.out, eqC, beq_eq_false_iff_ne.2 e1]; simp
            clear e0 e1
            go_upto_region 6 with (fail)
            refine wp_region_held_drew (S := (fun w' => Step wo w' ∧ (∀ b o, b < wo.heap.size → w'.cell? ⟨b, o, none⟩ = wo.cell? ⟨b, o, none⟩))) (by kernel_rfl) (by (try dsimp only); (first | exact ⟨hS1, hS2⟩ | exact ⟨Step.of, (bcell (fut _ _)).1⟩)) (fun hHeld => ?_)
            refine wT 0 16 (by assumption) ?_
            refine wT 1 17 (by assumption) ?_
            refine wT 4 20 (by assumption) ?_
            refine wT 5 21 (by assumption) ?_
            refine wT 2 18 (by assumption) ?_
            refine wT 6 22 (by assumption) ?_
            refine wT 3 19 (by assumption) ?_
            refine wT 7 23 (by assumption) ?_
            refine wT 8 24 (by assumption) ?_
            refine wpAnyH_done (by kernel_rfl) ?_ _
            go_wp2_with fail
            go_ret
            exact ⟨rfl, Step.of⟩
        · have g0 : (x.id = y.id) = False := eq_false e0
          obtain rfl : T = false := by rw [← HT2.out, eqC, beq_eq_false_iff_ne.2 e0]; simp
          clear e0
          go_upto_region 6 with (fail)
          refine wp_region_held_drew (S := (fun w' => Step wo w' ∧ (∀ b o, b < wo.heap.size → w'.cell? ⟨b, o, none⟩ = wo.cell? ⟨b, o, none⟩))) (by kernel_rfl) (by (try dsimp only); (first | exact ⟨hS1, hS2⟩ | exact ⟨Step.of, (bcell (fut _ _)).1⟩)) (fun hHeld => ?_)
          refine wT 0 16 (by assumption) ?_
          refine wT 1 17 (by assumption) ?_
          refine wT 4 20 (by assumption) ?_
          refine wT 5 21 (by assumption) ?_
          refine wT 2 18 (by assumption) ?_
          refine wT 6 22 (by assumption) ?_
          refine wT 3 19 (by assumption) ?_
          refine wT 7 23 (by assumption) ?_
          refine wT 8 24 (by assumption) ?_
          refine wpAnyH_done (by kernel_rfl) ?_ _
          go_wp2_with fail
          go_ret
          exact ⟨rfl, Step.of⟩
      · obtain rfl : k = a.length := by omega
        obtain rfl : T = true := by rw [← HT.out, List.drop_of_length_le (by rw [List.length_zip]; omega)]; rfl
        go_wp2_with fail
        go_ret
        exact ⟨rfl, Step.of⟩
  · obtain rfl : T = false := by rw [← HT.out, eqCs, beq_eq_false_iff_ne.2 hlen]; rfl
    have hb : ((a.length : Int) != (b.length : Int)) = true := by simp; omega
    go_enter Tryz.func60, Tryz.ntmps60
    go_wp2_with fail
    go_ret
    exact ⟨rfl, Step.of⟩
set_option maxRecDepth 100000 in
set_option maxHeartbeats 4000000 in
theorem equalF_any {w1 w2 : World} (a b : List Fld) (A1 A2 : Option Addr) (c1 c2 : Nat) (w : World) (h1 : SlAt w1 w1.heap.size 3 A1 (a.map Fld.cells)) (h2 : SlAt w2 w2.heap.size 3 A2 (b.map Fld.cells)) [f1 : Fut w1 w] [f2 : Fut w2 w] (hl : a.length ≤ 4611686018427387904) :
    Calls Tryz.prog 61 #[.slice A1 a.length c1, .slice A2 b.length c2] w fun e w' => e = .returned (.bool (eqFs a b)) ∧ Step w w' := by
  have z1 := f1.below.size; have z2 := f2.below.size
  obtain ⟨T, hT⟩ : ∃ T, eqFs a b = T := ⟨_, rfl⟩
  have HT := hide hT
  rw [hT]
  clear hT
  by_cases hlen : a.length = b.length
  · have HL := hide hlen
    rw [← hlen]
    have HT : Hid (((a.zip b).all fun p => eqF p.1 p.2) = T) := by show _ = _; rw [← HT.out, eqFs, hlen]; simp
    clear hlen
    go_enter Tryz.func61, Tryz.ntmps61
    go_wp2_with fail
    go_loopw [5, 13] (fun _ i wr => ∃ k : Nat, k ≤ a.length ∧ i = .int .i64 k ∧ Hid ((((a.zip b).drop k).all fun p => eqF p.1 p.2) = T) ∧ Step w wr) (fun _ i _ => a.length - (intOf i).toNat)
    case atStart => exact ⟨0, Nat.zero_le _, rfl, HT.out, Step.of⟩
    case round =>
      clear HT
      obtain ⟨k, hk, rfl, HT, hst⟩ := hrel
      obtain ⟨wo, rfl⟩ : ∃ x : World, x = wr := ⟨_, rfl⟩
      have hzo := hst.size
      by_cases hlt : k < a.length
      · obtain ⟨b1, o1, hA1, hb1, hc1⟩ := h1.elem (w' := wo) inferInstance (k := k) (by simpa using hlt)
        obtain ⟨b2, o2, hA2, hb2, hc2⟩ := h2.elem (w' := wo) inferInstance (k := k) (by have := HL.out; simp; omega)
        obtain ⟨x, hx⟩ : ∃ x, a[k]? = some x := ⟨_, List.getElem?_eq_getElem hlt⟩
        obtain ⟨y, hy⟩ : ∃ y, b[k]? = some y := ⟨_, List.getElem?_eq_getElem (by have := HL.out; omega)⟩
        obtain ⟨p0, p1, p2⟩ := At.l3 (hc1 k x.cells (by simp [hx]))
        obtain ⟨q0, q1, q2⟩ := At.l3 (hc2 k y.cells (by simp [hy]))
        have l1 : b1 < wo.heap.size := by omega
        have l2 : b2 < wo.heap.size := by omega
        have hkl : (k : Int) < (a.length : Int) := by omega
        have hk0 : (0 : Int) ≤ (k : Int) := by omega
        have HT2 : Hid ((eqF x y && ((a.zip b).drop (k + 1)).all fun p => eqF p.1 p.2) = T) := by
          show _ = _
          have hz : (a.zip b)[k]? = some (x, y) := by rw [List.getElem?_zip_eq_some]; exact ⟨hx, hy⟩
          obtain ⟨hkz, hke⟩ := List.getElem?_eq_some_iff.1 hz
          rw [← HT.out, List.drop_eq_getElem_cons hkz, List.all_cons, hke]
        rw [hA1, hA2]
        clear hc1 hc2 hx hy hA1 hA2
        by_cases e0 : x.source = y.source
        · have g0 : (x.source = y.source) = True := eq_true e0
          by_cases e1 : x.trans = y.trans
          · have g1 : (x.trans = y.trans) = True := eq_true e1
            by_cases e2 : x.param = y.param
            · have g2 : (x.param = y.param) = True := eq_true e2
              have HT3 : Hid ((((a.zip b).drop (k + 1)).all fun p => eqF p.1 p.2) = T) := by show _ = _; rw [← HT2.out, eqF, e0, e1, e2]; simp
              clear e0 e1 e2
              go_upto_region 6 with (fail)
              refine wp_region_held_drew (S := (fun w' => Step wo w' ∧ (∀ b o, b < wo.heap.size → w'.cell? ⟨b, o, none⟩ = wo.cell? ⟨b, o, none⟩))) (by kernel_rfl) (by (try dsimp only); (first | exact ⟨hS1, hS2⟩ | exact ⟨Step.of, (bcell (fut _ _)).1⟩)) (fun hHeld => ?_)
              refine wT 0 16 (by assumption) ?_
              refine wT 1 17 (by assumption) ?_
              refine wT 4 20 (by assumption) ?_
              refine wT 5 21 (by assumption) ?_
              refine wT 2 18 (by assumption) ?_
              refine wT 6 22 (by assumption) ?_
              refine wT 3 19 (by assumption) ?_
              refine wT 7 23 (by assumption) ?_
              refine wT 8 24 (by assumption) ?_
              refine wpAnyH_done (by kernel_rfl) ?_ _
              go_wp2_with fail
              go_roundw
              case rel => exact ⟨k + 1, by omega, by go_num, HT3.out, Step.of⟩
              case measure => simp [intOf]; omega
            · have g2 : (x.param = y.param) = False := eq_false e2
              obtain rfl : T = false := by rw [← HT2.out, eqF, beq_eq_false_iff_ne.2 e2]; simp
              clear e0 e1 e2
              go_upto_region 6 with (fail)
              refine wp_region_held_drew (S := (fun w' => Step wo w' ∧ (∀ b o, b < wo.heap.size → w'.cell? ⟨b, o, none⟩ = wo.cell? ⟨b, o, none⟩))) (by kernel_rfl) (by (try dsimp only); (first | exact ⟨hS1, hS2⟩ | exact ⟨Step.of, (bcell (fut _ _)).1⟩)) (fun hHeld => ?_)
              refine wT 0 16 (by assumption) ?_
              refine wT 1 17 (by assumption) ?_
              refine wT 4 20 (by assumption) ?_
              refine wT 5 21 (by assumption) ?_
              refine wT 2 18 (by assumption) ?_
              refine wT 6 22 (by assumption) ?_
              refine wT 3 19 (by assumption) ?_
              refine wT 7 23 (by assumption) ?_
              refine wT 8 24 (by assumption) ?_
              refine wpAnyH_done (by kernel_rfl) ?_ _
              go_wp2_with fail
              go_ret
              exact ⟨rfl, Step.of⟩
          · have g1 : (x.trans = y.trans) = False := eq_false e1
            obtain rfl : T = false := by rw [← HT2.out, eqF, beq_eq_false_iff_ne.2 e1]; simp
            clear e0 e1
            go_upto_region 6 with (fail)
            refine wp_region_held_drew (S := (fun w' => Step wo w' ∧ (∀ b o, b < wo.heap.size → w'.cell? ⟨b, o, none⟩ = wo.cell? ⟨b, o, none⟩))) (by kernel_rfl) (by (try dsimp only); (first | exact ⟨hS1, hS2⟩ | exact ⟨Step.of, (bcell (fut _ _)).1⟩)) (fun hHeld => ?_)
            refine wT 0 16 (by assumption) ?_
            refine wT 1 17 (by assumption) ?_
            refine wT 4 20 (by assumption) ?_
            refine wT 5 21 (by assumption) ?_
            refine wT 2 18 (by assumption) ?_
            refine wT 6 22 (by assumption) ?_
            refine wT 3 19 (by assumption) ?_
            refine wT 7 23 (by assumption) ?_
            refine wT 8 24 (by assumption) ?_
            refine wpAnyH_done (by kernel_rfl) ?_ _
            go_wp2_with fail
            go_ret
            exact ⟨rfl, Step.of⟩
        · have g0 : (x.source = y.source) = False := eq_false e0
          obtain rfl : T = false := by rw [← HT2.out, eqF, beq_eq_false_iff_ne.2 e0]; simp
          clear e0
          go_upto_region 6 with (fail)
          refine wp_region_held_drew (S := (fun w' => Step wo w' ∧ (∀ b o, b < wo.heap.size → w'.cell? ⟨b, o, none⟩ = wo.cell? ⟨b, o, none⟩))) (by kernel_rfl) (by (try dsimp only); (first | exact ⟨hS1, hS2⟩ | exact ⟨Step.of, (bcell (fut _ _)).1⟩)) (fun hHeld => ?_)
          refine wT 0 16 (by assumption) ?_
          refine wT 1 17 (by assumption) ?_
          refine wT 4 20 (by assumption) ?_
          refine wT 5 21 (by assumption) ?_
          refine wT 2 18 (by assumption) ?_
          refine wT 6 22 (by assumption) ?_
          refine wT 3 19 (by assumption) ?_
          refine wT 7 23 (by assumption) ?_
          refine wT 8 24 (by assumption) ?_
          refine wpAnyH_done (by kernel_rfl) ?_ _
          go_wp2_with fail
          go_ret
          exact ⟨rfl, Step.of⟩
      · obtain rfl : k = a.length := by omega
        obtain rfl : T = true := by rw [← HT.out, List.drop_of_length_le (by rw [List.length_zip]; omega)]; rfl
        go_wp2_with fail
        go_ret
        exact ⟨rfl, Step.of⟩
  · obtain rfl : T = false := by rw [← HT.out, eqFs, beq_eq_false_iff_ne.2 hlen]; rfl
    have hb : ((a.length : Int) != (b.length : Int)) = true := by simp; omega
    go_enter Tryz.func61, Tryz.ntmps61
    go_wp2_with fail
    go_ret
    exact ⟨rfl, Step.of⟩
end Go.Proofs.YtnphokhehacfnaaGreatDoor

