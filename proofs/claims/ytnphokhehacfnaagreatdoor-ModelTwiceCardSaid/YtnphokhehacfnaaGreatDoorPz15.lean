/-
  Texts put together: Dp, D5, D6.
-/
import Derived.Test.YtnphokhehacfnaaGreatDoorPz04
import Derived.Test.YtnphokhehacfnaaGreatDoorPz09
import Derived.Test.YtnphokhehacfnaaGreatDoorPz11
import Derived.Test.YtnphokhehacfnaaGreatDoorPz14
namespace Go.Proofs.YtnphokhehacfnaaGreatDoor
open Go.RowKit

def set7D (w : World) (g : Nat) (a b c d e f h : Value) : World := ((((((w.setCell ⟨g, 0, none⟩ a).setCell ⟨g, 1, none⟩ b).setCell ⟨g, 2, none⟩ c).setCell ⟨g, 3, none⟩ d).setCell ⟨g, 4, none⟩ e).setCell ⟨g, 5, none⟩ f).setCell ⟨g, 6, none⟩ h
theorem set7D_grown (w : World) (g : Nat) (a b c d e f h : Value) : w.grownBy (set7D w g a b c d e f h) (some g) := ((((((grown_setCell w g 0 a).trans (grown_setCell _ g 1 b)).trans (grown_setCell _ g 2 c)).trans (grown_setCell _ g 3 d)).trans (grown_setCell _ g 4 e)).trans (grown_setCell _ g 5 f)).trans (grown_setCell _ g 6 h)
theorem set7D_blk {w : World} {g : Nat} {e : TypeId} {x0 x1 x2 x3 x4 x5 x6 : Value} (h : Blk w g e [x0, x1, x2, x3, x4, x5, x6]) (a b c d y f z : Value) : Blk (set7D w g a b c d y f z) g e [a, b, c, d, y, f, z] := ((((((h.set_ 0 a).set_ 1 b).set_ 2 c).set_ 3 d).set_ 4 y).set_ 5 f).set_ 6 z
theorem set7D_below {B : Nat} {w W : World} {g : Nat} (h : Below B w W) (hg : B ≤ g) (a b c d e f y : Value) : Below B w (set7D W g a b c d e f y) := ((((((h.setCell (p := ⟨g, 0, none⟩) hg a).setCell (p := ⟨g, 1, none⟩) hg b).setCell (p := ⟨g, 2, none⟩) hg c).setCell (p := ⟨g, 3, none⟩) hg d).setCell (p := ⟨g, 4, none⟩) hg e).setCell (p := ⟨g, 5, none⟩) hg f).setCell (p := ⟨g, 6, none⟩) hg y
theorem set7D_far {w : World} {g b : Nat} {e : TypeId} {cs : List Value} (h : Blk w g e cs) (hb : g ≠ b) (x0 x1 x2 x3 x4 x5 x6 : Value) : Blk (set7D w b x0 x1 x2 x3 x4 x5 x6) g e cs := h.grown (set7D_grown w b x0 x1 x2 x3 x4 x5 x6) (by intro hh; injection hh with hh; exact hb hh)
def ansV (c : Int) (v : Val) : Value := .agg #[.int .i64 c, .slice none 0 0, .slice none 0 0, .int .i64 v.kind, .int .i64 v.i, .bool v.b, .string v.s]
/-- What a read of an aggregate answers: a code and a value. -/
def readT (t : Tb) (o : Opp) : Int × Val := if tabB t = false then (9, Val.zero) else match readA t o with | .error c => (c, Val.zero) | .ok v => (0, v)
set_option maxRecDepth 100000 in
set_option maxHeartbeats 4000000 in
theorem clrR_no (pe po : Nat) (te : TypeId) (u : FrameMode) (w : World) (he : Blk w pe te [.int .i64 0]) :
    CallsD Tryz.prog 74 #[.pointer (some ⟨pe, 0, none⟩), .pointer (some ⟨po, 0, none⟩)] u w fun e u' w' => e = .returned (.tuple #[]) ∧ u' = u ∧ w' = w := by
  have q0 := At.z1 he.at0
  have lq := he.lt
  clear he
  refine (callsD_of_wp (R := fun e w' => e = .returned (.tuple #[]) ∧ w' = w) Tryz.func74 rfl ?_).mono (fun e u' w' h => ⟨h.2.1, h.1, h.2.2⟩)
  change Code.wp Tryz.prog _ _ { tmps := #[.pointer (some ⟨pe, 0, none⟩), .pointer (some ⟨po, 0, none⟩), undef, undef, undef, undef], defers := [] } w
  go_wp2_with fail
  go_end0
  exact ⟨rfl, rfl⟩
set_option maxRecDepth 100000 in
set_option maxHeartbeats 4000000 in
theorem clrR_yes (pe po : Nat) (te to_ : TypeId) (c : Int) (hc : c ≠ 0) (x0 x1 x2 x3 x4 x5 x6 : Value) (u : FrameMode) (w : World) (he : Blk w pe te [.int .i64 c]) (ho : Blk w po to_ [x0, x1, x2, x3, x4, x5, x6]) :
    CallsD Tryz.prog 74 #[.pointer (some ⟨pe, 0, none⟩), .pointer (some ⟨po, 0, none⟩)] u w fun e u' w' => e = .returned (.tuple #[]) ∧ u' = u ∧ w' = set7D w po (.int .i64 c) (.slice none 0 0) (.slice none 0 0) (.int .i64 0) (.int .i64 0) (.bool false) (.string ⟨#[]⟩) := by
  have q0 := At.z1 he.at0
  have lq := he.lt
  obtain ⟨c0, c1, c2, c3, c4, c5, c6⟩ := At.z7 ho.at0
  have lc := ho.lt
  have fc := ho.free
  clear he ho
  have hcb : (c != 0) = true := bne_iff_ne.2 hc
  refine (callsD_of_wp (R := fun e w' => e = .returned (.tuple #[]) ∧ w' = set7D w po (.int .i64 c) (.slice none 0 0) (.slice none 0 0) (.int .i64 0) (.int .i64 0) (.bool false) (.string ⟨#[]⟩)) Tryz.func74 rfl ?_).mono (fun e u' w' h => ⟨h.2.1, h.1, h.2.2⟩)
  change Code.wp Tryz.prog _ _ { tmps := #[.pointer (some ⟨pe, 0, none⟩), .pointer (some ⟨po, 0, none⟩), undef, undef, undef, undef], defers := [] } w
  go_wp2_with fail
  go_end0
  exact ⟨rfl, rfl⟩
set_option maxRecDepth 100000 in
set_option maxHeartbeats 8000000 in
theorem read_form {w0 : World} (t : TbA) (o : OpA) (w : World) (hin : TbIn w0 t) [f0 : Fut w0 w] (hm : tabB t.tb = false) :
    Calls Tryz.prog 32 #[.agg #[.int .i64 t.s.id, .slice t.As t.s.cols.length t.cs, .int .i64 t.s.next, .int .i64 t.sid, .slice t.Af t.fs.length t.cf, .slice t.Ar t.rs.length t.cr], .agg #[.int .i64 o.kind, .string o.txn, .slice o.Ac o.cols.length o.cc, .slice o.Ar o.rows.length o.cr, .slice o.An o.ns.length o.cn, .string o.col, .string o.name, .int .i64 o.ck, .int .i64 o.v.kind, .int .i64 o.v.i, .bool o.v.b, .string o.v.s, .slice o.Af o.fs.length o.cf, .int .i64 o.ver, .int .i64 o.time, .int .i64 o.agg]] w fun e w' => e = .returned (.agg #[.int .i64 9, .slice none 0 0, .slice none 0 0, .int .i64 0, .int .i64 0, .bool false, .string ⟨#[]⟩]) ∧ Step w w' := by
  have MY := hide (fun (w' : World) (hq : Fut w w') => haveI := Fut.tr f0 hq; mmay_any t w' hin)
  have MC := hide (fun (w' : World) (hq : Fut w w') => haveI := Fut.tr f0 hq; mclone_any t w' hin)
  have hmf : ∀ (fn : Fn) (first cap : Array Value) (w : World), (Instr.makeFunc fn first cap).run Tryz.prog w = .ok (.func fn first cap) w := fun _ _ _ _ => rfl
  obtain ⟨W, hW⟩ : ∃ x : World, x = ((w.alloc (.cells #[.int .i64 t.s.id, .slice t.As t.s.cols.length t.cs, .int .i64 t.s.next, .int .i64 t.sid, .slice t.Af t.fs.length t.cf, .slice t.Ar t.rs.length t.cr] 30)).alloc (.cells #[.int .i64 o.kind, .string o.txn, .slice o.Ac o.cols.length o.cc, .slice o.Ar o.rows.length o.cr, .slice o.An o.ns.length o.cn, .string o.col, .string o.name, .int .i64 o.ck, .int .i64 o.v.kind, .int .i64 o.v.i, .bool o.v.b, .string o.v.s, .slice o.Af o.fs.length o.cf, .int .i64 o.ver, .int .i64 o.time, .int .i64 o.agg] 38)).alloc (.cells #[.int .i64 0, .slice none 0 0, .slice none 0 0, .int .i64 0, .int .i64 0, .bool false, .string ⟨#[]⟩] 59) := ⟨_, rfl⟩
  have SW : Step w W := by rw [hW]; exact Step.of
  have HT : Hid (Blk W w.heap.size 30 [.int .i64 t.s.id, .slice t.As t.s.cols.length t.cs, .int .i64 t.s.next, .int .i64 t.sid, .slice t.Af t.fs.length t.cf, .slice t.Ar t.rs.length t.cr]) := by rw [hW]; exact ((Blk.new w _ 30).alloc _).alloc _
  have HO : Hid (Blk W (w.heap.size + 1) 38 [.int .i64 o.kind, .string o.txn, .slice o.Ac o.cols.length o.cc, .slice o.Ar o.rows.length o.cr, .slice o.An o.ns.length o.cn, .string o.col, .string o.name, .int .i64 o.ck, .int .i64 o.v.kind, .int .i64 o.v.i, .bool o.v.b, .string o.v.s, .slice o.Af o.fs.length o.cf, .int .i64 o.ver, .int .i64 o.time, .int .i64 o.agg]) := by rw [hW]; exact (Blk.new_at (by simp) _ 38).alloc _
  have HU : Hid (Blk W (w.heap.size + 2) 59 [.int .i64 0, .slice none 0 0, .slice none 0 0, .int .i64 0, .int .i64 0, .bool false, .string ⟨#[]⟩]) := by rw [hW]; exact Blk.new_at (by simp) _ 59
  have hzW : w.heap.size + 3 = W.heap.size := by rw [hW]; simp
  have HZW := hide hzW
  clear hzW
  rw [hm] at MY
  clear hm
  go_enter_defers Tryz.func32, Tryz.ntmps32
  go_upto_region 1 with fail
  rw [← hW]
  clear hW
  obtain ⟨t0, t1, t2, t3, t4, t5⟩ := At.z6 (HT.out.fut (w' := W)).at0
  have lt_ := (HT.out.fut (w' := W)).lt
  have ub := HU.out.fut (w' := W)
  obtain ⟨u0, u1, u2, u3, u4, u5, u6⟩ := At.z7 ub.at0
  have lu := ub.lt
  have fu := ub.free
  clear ub
  go_wp2_with (clear u0 u1 u2 u3 u4 u5 u6 lu fu; (go_at_call 19; (with_reducible refine (MY.out _ inferInstance).mono ?_); rintro e w3 ⟨rfl, hs3⟩; clear t0 t1 t2 t3 t4 t5 lt_; obtain ⟨t0, t1, t2, t3, t4, t5⟩ := At.z6 (HT.out.fut (w' := w3)).at0; have lt_ := (HT.out.fut (w' := w3)).lt; have ub := HU.out.fut (w' := w3); obtain ⟨u0, u1, u2, u3, u4, u5, u6⟩ := At.z7 ub.at0; have lu := ub.lt; have fu := ub.free; clear ub))
  have hb2 : Below w.heap.size w _ := set7D_below (fut w w3) (show w.heap.size ≤ w.heap.size + 2 by omega) (.int .i64 9) (.slice none 0 0) (.slice none 0 0) (.int .i64 0) (.int .i64 0) (.bool false) (.string ⟨#[]⟩)
  simp [bodyPostD, Leaves, results, Tryz.results32, go_sem, u0, u1, u2, u3, u4, u5, u6]
  exact ⟨hb2⟩

set_option maxRecDepth 100000 in
set_option maxHeartbeats 8000000 in
theorem read_err {w0 : World} (t : TbA) (o : OpA) (w : World) (hin : TbIn w0 t) [f0 : Fut w0 w] (hm : tabB t.tb = true) (c : Int) (hc : c ≠ 0)
    (hrun : ∀ (g D T O U : Nat) (t' : TbA) (w' : World), Fut w w' → Doer w' g D T O t' o → Blk w' U 59 [.int .i64 0, .slice none 0 0, .slice none 0 0, .int .i64 0, .int .i64 0, .bool false, .string ⟨#[]⟩] → t'.tb = t.tb → Calls Tryz.prog 75 #[.pointer (some ⟨D, 0, none⟩), .pointer (some ⟨U, 0, none⟩)] w' fun e w'' => ReadA U w' (.error c) e w'') :
    Calls Tryz.prog 32 #[.agg #[.int .i64 t.s.id, .slice t.As t.s.cols.length t.cs, .int .i64 t.s.next, .int .i64 t.sid, .slice t.Af t.fs.length t.cf, .slice t.Ar t.rs.length t.cr], .agg #[.int .i64 o.kind, .string o.txn, .slice o.Ac o.cols.length o.cc, .slice o.Ar o.rows.length o.cr, .slice o.An o.ns.length o.cn, .string o.col, .string o.name, .int .i64 o.ck, .int .i64 o.v.kind, .int .i64 o.v.i, .bool o.v.b, .string o.v.s, .slice o.Af o.fs.length o.cf, .int .i64 o.ver, .int .i64 o.time, .int .i64 o.agg]] w fun e w' => e = .returned (.agg #[.int .i64 c, .slice none 0 0, .slice none 0 0, .int .i64 0, .int .i64 0, .bool false, .string ⟨#[]⟩]) ∧ Step w w' := by
  have MY := hide (fun (w' : World) (hq : Fut w w') => haveI := Fut.tr f0 hq; mmay_any t w' hin)
  have MC := hide (fun (w' : World) (hq : Fut w w') => haveI := Fut.tr f0 hq; mclone_any t w' hin)
  have hmf : ∀ (fn : Fn) (first cap : Array Value) (w : World), (Instr.makeFunc fn first cap).run Tryz.prog w = .ok (.func fn first cap) w := fun _ _ _ _ => rfl
  obtain ⟨W, hW⟩ : ∃ x : World, x = ((w.alloc (.cells #[.int .i64 t.s.id, .slice t.As t.s.cols.length t.cs, .int .i64 t.s.next, .int .i64 t.sid, .slice t.Af t.fs.length t.cf, .slice t.Ar t.rs.length t.cr] 30)).alloc (.cells #[.int .i64 o.kind, .string o.txn, .slice o.Ac o.cols.length o.cc, .slice o.Ar o.rows.length o.cr, .slice o.An o.ns.length o.cn, .string o.col, .string o.name, .int .i64 o.ck, .int .i64 o.v.kind, .int .i64 o.v.i, .bool o.v.b, .string o.v.s, .slice o.Af o.fs.length o.cf, .int .i64 o.ver, .int .i64 o.time, .int .i64 o.agg] 38)).alloc (.cells #[.int .i64 0, .slice none 0 0, .slice none 0 0, .int .i64 0, .int .i64 0, .bool false, .string ⟨#[]⟩] 59) := ⟨_, rfl⟩
  have SW : Step w W := by rw [hW]; exact Step.of
  have HT : Hid (Blk W w.heap.size 30 [.int .i64 t.s.id, .slice t.As t.s.cols.length t.cs, .int .i64 t.s.next, .int .i64 t.sid, .slice t.Af t.fs.length t.cf, .slice t.Ar t.rs.length t.cr]) := by rw [hW]; exact ((Blk.new w _ 30).alloc _).alloc _
  have HO : Hid (Blk W (w.heap.size + 1) 38 [.int .i64 o.kind, .string o.txn, .slice o.Ac o.cols.length o.cc, .slice o.Ar o.rows.length o.cr, .slice o.An o.ns.length o.cn, .string o.col, .string o.name, .int .i64 o.ck, .int .i64 o.v.kind, .int .i64 o.v.i, .bool o.v.b, .string o.v.s, .slice o.Af o.fs.length o.cf, .int .i64 o.ver, .int .i64 o.time, .int .i64 o.agg]) := by rw [hW]; exact (Blk.new_at (by simp) _ 38).alloc _
  have HU : Hid (Blk W (w.heap.size + 2) 59 [.int .i64 0, .slice none 0 0, .slice none 0 0, .int .i64 0, .int .i64 0, .bool false, .string ⟨#[]⟩]) := by rw [hW]; exact Blk.new_at (by simp) _ 59
  have hzW : w.heap.size + 3 = W.heap.size := by rw [hW]; simp
  have HZW := hide hzW
  clear hzW
  have HRN := hide hrun
  rw [hm] at MY
  clear hm hrun
  go_enter_defers Tryz.func32, Tryz.ntmps32
  go_upto_region 1 with fail
  rw [← hW]
  clear hW
  obtain ⟨t0, t1, t2, t3, t4, t5⟩ := At.z6 (HT.out.fut (w' := W)).at0
  have lt_ := (HT.out.fut (w' := W)).lt
  have ub := HU.out.fut (w' := W)
  obtain ⟨u0, u1, u2, u3, u4, u5, u6⟩ := At.z7 ub.at0
  have lu := ub.lt
  have fu := ub.free
  clear ub
  go_upto_region 4 with (clear u0 u1 u2 u3 u4 u5 u6 lu fu; (go_at_call 19; (with_reducible refine (MY.out _ inferInstance).mono ?_); rintro e w3 ⟨rfl, hs3⟩; clear t0 t1 t2 t3 t4 t5 lt_; obtain ⟨t0, t1, t2, t3, t4, t5⟩ := At.z6 (HT.out.fut (w' := w3)).at0; have lt_ := (HT.out.fut (w' := w3)).lt; have ub := HU.out.fut (w' := w3); obtain ⟨u0, u1, u2, u3, u4, u5, u6⟩ := At.z7 ub.at0; have lu := ub.lt; have fu := ub.free; clear ub))
  obtain ⟨W5, hW5⟩ : ∃ x : World, x = w3.alloc (.cells #[.int .i64 0] 3) := ⟨_, rfl⟩
  have SW5 : Step w3 W5 := by rw [hW5]; exact Step.of
  have HE : Hid (Blk W5 w3.heap.size 3 [.int .i64 0]) := by rw [hW5]; exact Blk.new w3 _ 3
  have hz5 : W5.heap.size = w3.heap.size + 1 := by rw [hW5]; simp
  have HZ5 := hide hz5
  rw [← hW5]
  clear hW5 hz5 u0 u1 u2 u3 u4 u5 u6 lu fu
  clear t0 t1 t2 t3 t4 t5 lt_
  obtain ⟨t0, t1, t2, t3, t4, t5⟩ := At.z6 (HT.out.fut (w' := W5)).at0
  have lt_ := (HT.out.fut (w' := W5)).lt
  have hNe : w.heap.size + 3 ≤ w3.heap.size := by have := (fut W w3).size; have := HZW.out; omega
  go_upto_region 7 with (go_at_call 41; (with_reducible refine (MC.out _ inferInstance).mono ?_); rintro e w4 ⟨Ac, cc, Af, cf, os, A', c', rfl, hos, hol, hown, hs4⟩; have HOS := hide hos; have HOL := hide hol; have HOW := hide hown; clear hos hol hown)
  clear t0 t1 t2 t3 t4 t5 lt_
  obtain ⟨X1, hX1⟩ : ∃ x : World, x = w4.alloc (.cells #[.int .i64 t.s.id, .slice Ac t.s.cols.length cc, .int .i64 t.s.next, .int .i64 t.sid, .slice Af t.fs.length cf, .slice A' t.rs.length c'] 30) := ⟨_, rfl⟩
  have SX1 : Step w4 X1 := by rw [hX1]; exact Step.of
  have hz1 : X1.heap.size = w4.heap.size + 1 := by rw [hX1]; simp
  have HB1 : Hid (Blk X1 w4.heap.size 30 [.int .i64 t.s.id, .slice Ac t.s.cols.length cc, .int .i64 t.s.next, .int .i64 t.sid, .slice Af t.fs.length cf, .slice A' t.rs.length c']) := by rw [hX1]; exact Blk.new w4 _ 30
  rw [← hX1]
  obtain ⟨X2, hX2⟩ : ∃ x : World, x = X1.alloc (.cells #[.pointer (some ⟨w4.heap.size, 0, none⟩), .pointer (some ⟨w.heap.size + 1, 0, none⟩)] 86) := ⟨_, rfl⟩
  have SX2 : Step X1 X2 := by rw [hX2]; exact Step.of
  have HDB : Hid (Blk X2 (w4.heap.size + 1) 86 [.pointer (some ⟨w4.heap.size, 0, none⟩), .pointer (some ⟨w.heap.size + 1, 0, none⟩)]) := by rw [hX2]; exact Blk.new_at hz1 _ 86
  have HX2 := hide hX2
  have HZ1 := hide hz1
  have hg3 : W5.heap.size ≤ w4.heap.size := (fut W5 w4).size
  have HDR : Hid (Doer X2 W5.heap.size (w4.heap.size + 1) w4.heap.size (w.heap.size + 1) ⟨t.s, Ac, cc, t.sid, t.fs, Af, cf, os, A', c'⟩ o) := ⟨HDB.out, by
    show Blk _ _ _ [_, _, _, _, _, .slice A' os.length c']
    rw [HOL.out]
    exact HB1.out.fut, HO.out.fut, HOW.out.fut, hg3⟩
  have HRUN := hide (HRN.out W5.heap.size (w4.heap.size + 1) w4.heap.size (w.heap.size + 1) (w.heap.size + 2) ⟨t.s, Ac, cc, t.sid, t.fs, Af, cf, os, A', c'⟩ X2 (Fut.mk' (fut w X2)) HDR.out HU.out.fut (by simp only [TbA.tb]; rw [HOS.out]))
  clear hX1 hX2 hz1
  go_wp2_with (go_at_call 75; rw [HX2.out.symm]; rw [show X1.heap.size = w4.heap.size + 1 from HZ1.out]; (with_reducible refine HRUN.out.mono ?_); rintro e w9 ⟨rfl, hs9⟩)
  have E2 := HE.out.fut (w' := w9)
  have U2 := HU.out.fut (w' := w9)
  refine leaves_cons (f := 43) (args := #[.pointer (some ⟨w3.heap.size, 0, none⟩)]) (by simp) (by simp [go_sem]) ?_
  refine (catch_panicking w3.heap.size 3 0 c [] _ E2).mono ?_
  rintro e u' w'' ⟨rfl, rfl, rfl⟩
  have E3 := (E2.set_ 0 (.int .i64 c)).alloc (.cells #[.int .i64 c] 121)
  have U3 := (U2.far (p := ⟨w3.heap.size, 0, none⟩) (by show w.heap.size + 2 ≠ w3.heap.size; omega) (.int .i64 c)).alloc (.cells #[.int .i64 c] 121)
  have b3 := (fut w w9).setCell (p := ⟨w3.heap.size, 0, none⟩) (by show w.heap.size ≤ w3.heap.size; omega) (.int .i64 c)
  have b4 := b3.alloc b3.size (.cells #[.int .i64 c] 121)
  obtain ⟨Y, hY⟩ : ∃ y : World, y = (w9.setCell ⟨w3.heap.size, 0, none⟩ (.int .i64 c)).alloc (.cells #[.int .i64 c] 121) := ⟨_, rfl⟩
  rw [← hY] at E3 U3 b4
  rw [← hY]
  clear hY b3
  refine leaves_cons (f := 74) (args := #[.pointer (some ⟨w3.heap.size, 0, none⟩), .pointer (some ⟨w.heap.size + 2, 0, none⟩)]) (by simp [settle]) (by simp [go_sem]) ?_
  refine (clrR_yes w3.heap.size (w.heap.size + 2) 3 59 c hc _ _ _ _ _ _ _ _ _ E3 U3).mono ?_
  rintro e u' w'' ⟨rfl, rfl, rfl⟩
  have B4 := set7D_blk U3 (.int .i64 c) (.slice none 0 0) (.slice none 0 0) (.int .i64 0) (.int .i64 0) (.bool false) (.string ⟨#[]⟩)
  have b5 := set7D_below b4 (show w.heap.size ≤ w.heap.size + 2 by omega) (.int .i64 c) (.slice none 0 0) (.slice none 0 0) (.int .i64 0) (.int .i64 0) (.bool false) (.string ⟨#[]⟩)
  obtain ⟨F, hF⟩ : ∃ F : World, F = set7D Y (w.heap.size + 2) (.int .i64 c) (.slice none 0 0) (.slice none 0 0) (.int .i64 0) (.int .i64 0) (.bool false) (.string ⟨#[]⟩) := ⟨_, rfl⟩
  rw [← hF] at B4 b5
  rw [← hF]
  obtain ⟨c0, c1, c2, c3, c4, c5, c6⟩ := At.z7 B4.at0
  simp [Leaves, settle, results, Tryz.results32, go_sem, c0, c1, c2, c3, c4, c5, c6]
  exact ⟨b5⟩

set_option maxRecDepth 100000 in
set_option maxHeartbeats 8000000 in
theorem read_ok {w0 : World} (t : TbA) (o : OpA) (w : World) (hin : TbIn w0 t) [f0 : Fut w0 w] (hm : tabB t.tb = true) (v : Val)
    (hrun : ∀ (g D T O U : Nat) (t' : TbA) (w' : World), Fut w w' → Doer w' g D T O t' o → Blk w' U 59 [.int .i64 0, .slice none 0 0, .slice none 0 0, .int .i64 0, .int .i64 0, .bool false, .string ⟨#[]⟩] → t'.tb = t.tb → Calls Tryz.prog 75 #[.pointer (some ⟨D, 0, none⟩), .pointer (some ⟨U, 0, none⟩)] w' fun e w'' => ReadA U w' (.ok v) e w'') :
    Calls Tryz.prog 32 #[.agg #[.int .i64 t.s.id, .slice t.As t.s.cols.length t.cs, .int .i64 t.s.next, .int .i64 t.sid, .slice t.Af t.fs.length t.cf, .slice t.Ar t.rs.length t.cr], .agg #[.int .i64 o.kind, .string o.txn, .slice o.Ac o.cols.length o.cc, .slice o.Ar o.rows.length o.cr, .slice o.An o.ns.length o.cn, .string o.col, .string o.name, .int .i64 o.ck, .int .i64 o.v.kind, .int .i64 o.v.i, .bool o.v.b, .string o.v.s, .slice o.Af o.fs.length o.cf, .int .i64 o.ver, .int .i64 o.time, .int .i64 o.agg]] w fun e w' => e = .returned (.agg #[.int .i64 0, .slice none 0 0, .slice none 0 0, .int .i64 v.kind, .int .i64 v.i, .bool v.b, .string v.s]) ∧ Step w w' := by
  have MY := hide (fun (w' : World) (hq : Fut w w') => haveI := Fut.tr f0 hq; mmay_any t w' hin)
  have MC := hide (fun (w' : World) (hq : Fut w w') => haveI := Fut.tr f0 hq; mclone_any t w' hin)
  have hmf : ∀ (fn : Fn) (first cap : Array Value) (w : World), (Instr.makeFunc fn first cap).run Tryz.prog w = .ok (.func fn first cap) w := fun _ _ _ _ => rfl
  obtain ⟨W, hW⟩ : ∃ x : World, x = ((w.alloc (.cells #[.int .i64 t.s.id, .slice t.As t.s.cols.length t.cs, .int .i64 t.s.next, .int .i64 t.sid, .slice t.Af t.fs.length t.cf, .slice t.Ar t.rs.length t.cr] 30)).alloc (.cells #[.int .i64 o.kind, .string o.txn, .slice o.Ac o.cols.length o.cc, .slice o.Ar o.rows.length o.cr, .slice o.An o.ns.length o.cn, .string o.col, .string o.name, .int .i64 o.ck, .int .i64 o.v.kind, .int .i64 o.v.i, .bool o.v.b, .string o.v.s, .slice o.Af o.fs.length o.cf, .int .i64 o.ver, .int .i64 o.time, .int .i64 o.agg] 38)).alloc (.cells #[.int .i64 0, .slice none 0 0, .slice none 0 0, .int .i64 0, .int .i64 0, .bool false, .string ⟨#[]⟩] 59) := ⟨_, rfl⟩
  have SW : Step w W := by rw [hW]; exact Step.of
  have HT : Hid (Blk W w.heap.size 30 [.int .i64 t.s.id, .slice t.As t.s.cols.length t.cs, .int .i64 t.s.next, .int .i64 t.sid, .slice t.Af t.fs.length t.cf, .slice t.Ar t.rs.length t.cr]) := by rw [hW]; exact ((Blk.new w _ 30).alloc _).alloc _
  have HO : Hid (Blk W (w.heap.size + 1) 38 [.int .i64 o.kind, .string o.txn, .slice o.Ac o.cols.length o.cc, .slice o.Ar o.rows.length o.cr, .slice o.An o.ns.length o.cn, .string o.col, .string o.name, .int .i64 o.ck, .int .i64 o.v.kind, .int .i64 o.v.i, .bool o.v.b, .string o.v.s, .slice o.Af o.fs.length o.cf, .int .i64 o.ver, .int .i64 o.time, .int .i64 o.agg]) := by rw [hW]; exact (Blk.new_at (by simp) _ 38).alloc _
  have HU : Hid (Blk W (w.heap.size + 2) 59 [.int .i64 0, .slice none 0 0, .slice none 0 0, .int .i64 0, .int .i64 0, .bool false, .string ⟨#[]⟩]) := by rw [hW]; exact Blk.new_at (by simp) _ 59
  have hzW : w.heap.size + 3 = W.heap.size := by rw [hW]; simp
  have HZW := hide hzW
  clear hzW
  have HRN := hide hrun
  rw [hm] at MY
  clear hm hrun
  go_enter_defers Tryz.func32, Tryz.ntmps32
  go_upto_region 1 with fail
  rw [← hW]
  clear hW
  obtain ⟨t0, t1, t2, t3, t4, t5⟩ := At.z6 (HT.out.fut (w' := W)).at0
  have lt_ := (HT.out.fut (w' := W)).lt
  have ub := HU.out.fut (w' := W)
  obtain ⟨u0, u1, u2, u3, u4, u5, u6⟩ := At.z7 ub.at0
  have lu := ub.lt
  have fu := ub.free
  clear ub
  go_upto_region 4 with (clear u0 u1 u2 u3 u4 u5 u6 lu fu; (go_at_call 19; (with_reducible refine (MY.out _ inferInstance).mono ?_); rintro e w3 ⟨rfl, hs3⟩; clear t0 t1 t2 t3 t4 t5 lt_; obtain ⟨t0, t1, t2, t3, t4, t5⟩ := At.z6 (HT.out.fut (w' := w3)).at0; have lt_ := (HT.out.fut (w' := w3)).lt; have ub := HU.out.fut (w' := w3); obtain ⟨u0, u1, u2, u3, u4, u5, u6⟩ := At.z7 ub.at0; have lu := ub.lt; have fu := ub.free; clear ub))
  obtain ⟨W5, hW5⟩ : ∃ x : World, x = w3.alloc (.cells #[.int .i64 0] 3) := ⟨_, rfl⟩
  have SW5 : Step w3 W5 := by rw [hW5]; exact Step.of
  have HE : Hid (Blk W5 w3.heap.size 3 [.int .i64 0]) := by rw [hW5]; exact Blk.new w3 _ 3
  have hz5 : W5.heap.size = w3.heap.size + 1 := by rw [hW5]; simp
  have HZ5 := hide hz5
  rw [← hW5]
  clear hW5 hz5 u0 u1 u2 u3 u4 u5 u6 lu fu
  clear t0 t1 t2 t3 t4 t5 lt_
  obtain ⟨t0, t1, t2, t3, t4, t5⟩ := At.z6 (HT.out.fut (w' := W5)).at0
  have lt_ := (HT.out.fut (w' := W5)).lt
  have hNe : w.heap.size + 3 ≤ w3.heap.size := by have := (fut W w3).size; have := HZW.out; omega
  go_upto_region 7 with (go_at_call 41; (with_reducible refine (MC.out _ inferInstance).mono ?_); rintro e w4 ⟨Ac, cc, Af, cf, os, A', c', rfl, hos, hol, hown, hs4⟩; have HOS := hide hos; have HOL := hide hol; have HOW := hide hown; clear hos hol hown)
  clear t0 t1 t2 t3 t4 t5 lt_
  obtain ⟨X1, hX1⟩ : ∃ x : World, x = w4.alloc (.cells #[.int .i64 t.s.id, .slice Ac t.s.cols.length cc, .int .i64 t.s.next, .int .i64 t.sid, .slice Af t.fs.length cf, .slice A' t.rs.length c'] 30) := ⟨_, rfl⟩
  have SX1 : Step w4 X1 := by rw [hX1]; exact Step.of
  have hz1 : X1.heap.size = w4.heap.size + 1 := by rw [hX1]; simp
  have HB1 : Hid (Blk X1 w4.heap.size 30 [.int .i64 t.s.id, .slice Ac t.s.cols.length cc, .int .i64 t.s.next, .int .i64 t.sid, .slice Af t.fs.length cf, .slice A' t.rs.length c']) := by rw [hX1]; exact Blk.new w4 _ 30
  rw [← hX1]
  obtain ⟨X2, hX2⟩ : ∃ x : World, x = X1.alloc (.cells #[.pointer (some ⟨w4.heap.size, 0, none⟩), .pointer (some ⟨w.heap.size + 1, 0, none⟩)] 86) := ⟨_, rfl⟩
  have SX2 : Step X1 X2 := by rw [hX2]; exact Step.of
  have HDB : Hid (Blk X2 (w4.heap.size + 1) 86 [.pointer (some ⟨w4.heap.size, 0, none⟩), .pointer (some ⟨w.heap.size + 1, 0, none⟩)]) := by rw [hX2]; exact Blk.new_at hz1 _ 86
  have HX2 := hide hX2
  have HZ1 := hide hz1
  have hg3 : W5.heap.size ≤ w4.heap.size := (fut W5 w4).size
  have HDR : Hid (Doer X2 W5.heap.size (w4.heap.size + 1) w4.heap.size (w.heap.size + 1) ⟨t.s, Ac, cc, t.sid, t.fs, Af, cf, os, A', c'⟩ o) := ⟨HDB.out, by
    show Blk _ _ _ [_, _, _, _, _, .slice A' os.length c']
    rw [HOL.out]
    exact HB1.out.fut, HO.out.fut, HOW.out.fut, hg3⟩
  have HRUN := hide (HRN.out W5.heap.size (w4.heap.size + 1) w4.heap.size (w.heap.size + 1) (w.heap.size + 2) ⟨t.s, Ac, cc, t.sid, t.fs, Af, cf, os, A', c'⟩ X2 (Fut.mk' (fut w X2)) HDR.out HU.out.fut (by simp only [TbA.tb]; rw [HOS.out]))
  clear hX1 hX2 hz1
  go_wp2_with (go_at_call 75; rw [HX2.out.symm]; rw [show X1.heap.size = w4.heap.size + 1 from HZ1.out]; (with_reducible refine HRUN.out.mono ?_); rintro e w9 ⟨rfl, w8, hs8, hw9⟩; have HB9 := hide (((((HU.out.fut (w' := w8)).set_ 3 (.int .i64 v.kind)).set_ 4 (.int .i64 v.i)).set_ 5 (.bool v.b)).set_ 6 (.string v.s)); have HE9 := hide (((((HE.out.fut (w' := w8)).far (p := ⟨w.heap.size + 2, 3, none⟩) (by show w3.heap.size ≠ w.heap.size + 2; omega) (.int .i64 v.kind)).far (p := ⟨w.heap.size + 2, 4, none⟩) (by show w3.heap.size ≠ w.heap.size + 2; omega) (.int .i64 v.i)).far (p := ⟨w.heap.size + 2, 5, none⟩) (by show w3.heap.size ≠ w.heap.size + 2; omega) (.bool v.b)).far (p := ⟨w.heap.size + 2, 6, none⟩) (by show w3.heap.size ≠ w.heap.size + 2; omega) (.string v.s)); have hb9 : Below w.heap.size w _ := ((((fut w w8).setCell (p := ⟨w.heap.size + 2, 3, none⟩) (by simp) (.int .i64 v.kind)).setCell (p := ⟨w.heap.size + 2, 4, none⟩) (by simp) (.int .i64 v.i)).setCell (p := ⟨w.heap.size + 2, 5, none⟩) (by simp) (.bool v.b)).setCell (p := ⟨w.heap.size + 2, 6, none⟩) (by simp) (.string v.s); rw [← hw9] at HB9 HE9 hb9; clear hw9; have hs9 : Step w w9 := ⟨hb9⟩; obtain ⟨u0, u1, u2, u3, u4, u5, u6⟩ := At.z7 HB9.out.at0; have lu := HB9.out.lt; have fu := HB9.out.free)
  have B4 := set7D_blk HB9.out (.int .i64 0) (.slice none 0 0) (.slice none 0 0) (.int .i64 v.kind) (.int .i64 v.i) (.bool v.b) (.string v.s)
  have E4 := set7D_far HE9.out (b := w.heap.size + 2) (by omega) (.int .i64 0) (.slice none 0 0) (.slice none 0 0) (.int .i64 v.kind) (.int .i64 v.i) (.bool v.b) (.string v.s)
  have b5 := set7D_below (fut w w9) (show w.heap.size ≤ w.heap.size + 2 by omega) (.int .i64 0) (.slice none 0 0) (.slice none 0 0) (.int .i64 v.kind) (.int .i64 v.i) (.bool v.b) (.string v.s)
  obtain ⟨Y, hY⟩ : ∃ y : World, y = set7D w9 (w.heap.size + 2) (.int .i64 0) (.slice none 0 0) (.slice none 0 0) (.int .i64 v.kind) (.int .i64 v.i) (.bool v.b) (.string v.s) := ⟨_, rfl⟩
  rw [← hY] at B4 E4 b5
  unfold set7D at hY
  rw [← hY]
  clear hY u0 u1 u2 u3 u4 u5 u6 lu fu
  refine leaves_cons (f := 43) (args := #[.pointer (some ⟨w3.heap.size, 0, none⟩)]) (by simp) (by simp [go_sem]) ?_
  refine (catch_idle _ _).mono ?_
  rintro e u' w'' ⟨rfl, rfl, rfl⟩
  refine leaves_cons (f := 74) (args := #[.pointer (some ⟨w3.heap.size, 0, none⟩), .pointer (some ⟨w.heap.size + 2, 0, none⟩)]) (by simp [settle]) (by simp [go_sem]) ?_
  refine (clrR_no w3.heap.size (w.heap.size + 2) 3 _ _ E4).mono ?_
  rintro e u' w'' ⟨rfl, rfl, rfl⟩
  obtain ⟨c0, c1, c2, c3, c4, c5, c6⟩ := At.z7 B4.at0
  simp [Leaves, settle, results, Tryz.results32, go_sem, c0, c1, c2, c3, c4, c5, c6]
  exact ⟨b5⟩
theorem of_tbR {t t' : TbA} (h : TbFine t) (he : t'.tb = t.tb) : TbFine t' := by
  have h1 : t'.s = t.s := congrArg Tb.s he
  have h2 : t'.fs = t.fs := congrArg Tb.fs he
  have h3 : t'.rs.map RowA.vs = t.rs.map RowA.vs := congrArg Tb.rows he
  have h4 : t'.rs.length = t.rs.length := by have := congrArg List.length h3; simpa using this
  exact ⟨by rw [h1]; exact h.clen, by rw [h1]; exact h.names, by rw [h2]; exact h.flen, by rw [h4]; exact h.rlen, by rw [h3]; exact h.vals⟩
theorem tb_smallR {t t' : TbA} (h : tabB t.tb = true) (he : t'.tb = t.tb) : t'.s.cols.length ≤ 12 ∧ t'.rs.length ≤ 4096 := by
  have h1 : t'.s = t.s := congrArg Tb.s he
  have h3 : t'.rs.map RowA.vs = t.rs.map RowA.vs := congrArg Tb.rows he
  have h4 : t'.rs.length = t.rs.length := by have := congrArg List.length h3; simpa using this
  obtain ⟨hm, _, hl, _⟩ := tabB_iff.1 h
  have hc := (addR_inv hm).2.2.2.2
  refine ⟨by rw [h1]; exact hc, ?_⟩
  rw [h4]
  simpa [TbA.tb] using hl
theorem readA_err {t : Tb} {o : Opp} {c : Int} (h : readA t o = .error c) : c ≠ 0 := by
  rw [read_eq] at h
  split at h
  · injection h with h; omega
  · split at h
    · rename_i hq
      unfold yesP at hq
      split at hq
      · injection hq with hq; injection h with h; omega
      · cases hq
    · unfold readB at h
      split at h
      · injection h with h; omega
      · split at h
        · injection h with h; omega
        · unfold readC at h
          split at h
          · injection h with h; omega
          · split at h
            · injection h with h; omega
            · cases h
/-- Read of an aggregate. -/
theorem readAgg {w0 w1 : World} (t : TbA) (o : OpA) (w : World) (hin : TbIn w0 t) (ho : OpIn w1 o) [f0 : Fut w0 w] [f1 : Fut w1 w] (hag : o.agg ≠ 0) (hfine : ∀ vs ∈ t.tb.rows, ∀ v ∈ vs, FineD v) :
    Calls Tryz.prog 32 #[t.val, .agg #[.int .i64 o.kind, .string o.txn, .slice o.Ac o.cols.length o.cc, .slice o.Ar o.rows.length o.cr, .slice o.An o.ns.length o.cn, .string o.col, .string o.name, .int .i64 o.ck, .int .i64 o.v.kind, .int .i64 o.v.i, .bool o.v.b, .string o.v.s, .slice o.Af o.fs.length o.cf, .int .i64 o.ver, .int .i64 o.time, .int .i64 o.agg]] w fun e w' => e = .returned (ansV (readT t.tb o.op).1 (readT t.tb o.op).2) ∧ Step w w' := by
  cases hm : tabB t.tb with
  | false =>
    rw [readT, if_pos hm]
    exact read_form t o w hin hm
  | true =>
    have hr : ∀ (g D T O U : Nat) (t' : TbA) (w' : World), Fut w w' → Doer w' g D T O t' o → Blk w' U 59 [.int .i64 0, .slice none 0 0, .slice none 0 0, .int .i64 0, .int .i64 0, .bool false, .string ⟨#[]⟩] → t'.tb = t.tb → Calls Tryz.prog 75 #[.pointer (some ⟨D, 0, none⟩), .pointer (some ⟨U, 0, none⟩)] w' fun e w'' => ReadA U w' (readA t.tb o.op) e w'' := by
      intro g D T O U t' w' hq hd hu he
      haveI := Fut.tr f1 hq
      have hs := tb_smallR hm he
      have hx : t'.rs.map RowA.vs = t.tb.rows := congrArg Tb.rows he
      rw [← he]
      exact readAgg_any g D T O U t' o _ _ _ _ _ _ _ w' hd hu ho (of_tbR hin.fine he) hs.2 (fun vs hvs => by
        rw [hx] at hvs
        have := List.all_eq_true.1 (tabB_iff.1 hm).2.2.2 vs hvs
        rw [rowW, Bool.and_eq_true, beq_iff_eq] at this
        rw [show t'.s = t.tb.s from congrArg Tb.s he]
        exact this.1) (fun vs hvs => hfine vs (by rw [hx] at hvs; exact hvs)) hag
    rw [readT, if_neg (by rw [hm]; simp)]
    cases hR : readA t.tb o.op with
    | error c =>
      rw [hR] at hr
      exact read_err t o w hin hm c (readA_err hR) hr
    | ok v =>
      rw [hR] at hr
      exact read_ok t o w hin hm v hr
end Go.Proofs.YtnphokhehacfnaaGreatDoor

namespace Go.Proofs.YtnphokhehacfnaaGreatDoor
open Go.RowKit

end Go.Proofs.YtnphokhehacfnaaGreatDoor

namespace Go.Proofs.YtnphokhehacfnaaGreatDoor
open Go.RowKit

set_option maxRecDepth 100000 in
set_option maxHeartbeats 4000000 in
theorem mnew_yes (s : Sch) (A : Option Addr) (cap : Nat) (w : World) (hs : SchIn w s A cap) (hm : mayB s = true) :
    Calls Tryz.prog 27 #[.agg #[.int .i64 s.id, .slice A s.cols.length cap, .int .i64 s.next]] w fun e w' => ∃ (A' : Option Addr) (cap' : Nat), e = .returned (.tuple #[.agg #[.int .i64 s.id, .slice A' s.cols.length cap', .int .i64 s.next, .int .i64 0, .slice none 0 0, .slice none 0 0], .int .i64 0]) ∧ s.cols.length ≤ cap' ∧ Own w' w.heap.size 90 3 (.slice A' s.cols.length cap') (s.cols.map Col.cells) ∧ Step w w' := by
  have CL := hide (fun (w' : World) (hf : Fut w w') => cloneC_any A cap s.cols w' hs.at_.fut (by have := hs.len; omega))
  have MY : Hid (∀ w' (hf : Fut w w'), Calls Tryz.prog 54 #[.agg #[.int .i64 s.id, .slice A s.cols.length cap, .int .i64 s.next]] w' fun e w'' => e = .returned (.bool true) ∧ Step w' w'') := fun w' hf => by have h := pmay s A cap w' hs; rw [hm] at h; exact h
  obtain ⟨W1, hW1⟩ : ∃ x : World, x = w.alloc (.cells #[.int .i64 s.id, .slice A s.cols.length cap, .int .i64 s.next] 24) := ⟨_, rfl⟩
  have HB1 : Hid (Blk W1 w.heap.size 24 [.int .i64 s.id, .slice A s.cols.length cap, .int .i64 s.next]) := by rw [hW1]; exact Blk.new w _ _
  have SW1 : Step w W1 := by rw [hW1]; exact Step.of
  have hz1 : W1.heap.size = w.heap.size + 1 := by rw [hW1]; simp
  have HZ1 := hide hz1
  clear hz1
  have lz := HB1.out.lt
  clear hm
  go_enter Tryz.func27, Tryz.ntmps27
  go_upto_region 1 with fail
  rw [← hW1]
  clear hW1
  obtain ⟨W2, hW2⟩ : ∃ x : World, x = W1.alloc (.cells #[.int .i64 0, .slice none 0 0, .int .i64 0, .int .i64 0, .slice none 0 0, .slice none 0 0] 30) := ⟨_, rfl⟩
  have HB2 : Hid (Blk W2 (w.heap.size + 1) 30 [.int .i64 0, .slice none 0 0, .int .i64 0, .int .i64 0, .slice none 0 0, .slice none 0 0]) := by rw [hW2]; exact Blk.new_at HZ1.out _ _
  have SW2 : Step W1 W2 := by rw [hW2]; exact Step.of
  rw [← hW2]
  clear hW2
  obtain ⟨x0, x1, x2⟩ := At.z3 (HB1.out.fut (w' := W2)).at0
  have lx := (HB1.out.fut (w' := W2)).lt
  go_upto_region 3 with (go_at_call 54; (with_reducible refine (MY.out _ inferInstance).mono ?_); rintro e w3 ⟨rfl, hs3⟩; clear x0 x1 x2 lx)
  obtain ⟨x0, x1, x2⟩ := At.z3 (HB1.out.fut (w' := w3)).at0
  have lx := (HB1.out.fut (w' := w3)).lt
  have hw3 : w.heap.size ≤ w3.heap.size := (fut w w3).size
  go_upto_region 4 with (go_at_call 71; (with_reducible refine (CL.out _ inferInstance).mono ?_); rintro e w4 ⟨A4, c4, rfl, hc4, hm4, ho4, hb4⟩; have hs4 : Step w3 w4 := ⟨hb4⟩; have HO4 := hide ho4; clear ho4 hb4 x0 x1 x2 lx; obtain ⟨x0, x1, x2⟩ := At.z3 (HB1.out.fut (w' := w4)).at0; have lx := (HB1.out.fut (w' := w4)).lt; have fx := (HB1.out.fut (w' := w4)).free)
  have HB4 := hide ((HB1.out.fut (w' := w4)).set_ 1 (.slice A4 s.cols.length c4))
  have HC4 := hide ((HB2.out.fut (w' := w4)).far (p := ⟨w.heap.size, 1, none⟩) (by simp) (.slice A4 s.cols.length c4))
  have HO5 := hide (HO4.out.set_other (HB1.out.fut (w' := w4)) (by decide) 1 (.slice A4 s.cols.length c4))
  have hb4 : Below w.heap.size w (w4.setCell ⟨w.heap.size, 1, none⟩ (.slice A4 s.cols.length c4)) := (fut w w4).setCell (p := ⟨w.heap.size, 1, none⟩) (by simp) _
  obtain ⟨X, hX⟩ : ∃ x : World, x = w4.setCell ⟨w.heap.size, 1, none⟩ (.slice A4 s.cols.length c4) := ⟨_, rfl⟩
  rw [← hX] at HB4 HC4 HO5 hb4
  rw [← hX]
  clear hX x0 x1 x2 lx fx HO4
  have hsX : Step w X := ⟨hb4⟩
  obtain ⟨x0, x1, x2⟩ := At.z3 HB4.out.at0
  have lx := HB4.out.lt
  obtain ⟨z0, z1, z2, z3, z4, z5⟩ := At.z6 HC4.out.at0
  have ly := HC4.out.lt
  have fy := HC4.out.free
  go_wp2_with fail
  have o0 := HO5.out.set_other HC4.out (by decide) 0 (.int .i64 s.id)
  have c0 := HC4.out.set_ 0 (.int .i64 s.id)
  have o1 := o0.set_other c0 (by decide) 1 (.slice A4 s.cols.length c4)
  have c1 := c0.set_ 1 (.slice A4 s.cols.length c4)
  have o2 := o1.set_other c1 (by decide) 2 (.int .i64 s.next)
  have c2 := c1.set_ 2 (.int .i64 s.next)
  have o3 := o2.set_other c2 (by decide) 3 (.int .i64 0)
  have c3 := c2.set_ 3 (.int .i64 0)
  have o4 := o3.set_other c3 (by decide) 4 (.slice none 0 0)
  have c4_ := c3.set_ 4 (.slice none 0 0)
  have o5 := o4.set_other c4_ (by decide) 5 (.slice none 0 0)
  refine bodyPost_ret (v := .tuple #[.agg #[.int .i64 s.id, .slice A4 s.cols.length c4, .int .i64 s.next, .int .i64 0, .slice none 0 0, .slice none 0 0], .int .i64 0]) (by simp [results, Tryz.results27, go_sem, z0, z1, z2, z3, z4, z5]) rfl ?_
  exact ⟨A4, c4, rfl, hc4, ⟨o5.1, o5.2.imp id fun ⟨g, cap, cur, hv, hb, r⟩ => ⟨g, cap, cur, hv, Nat.le_trans hw3 hb, r⟩⟩, Step.of⟩
end Go.Proofs.YtnphokhehacfnaaGreatDoor

