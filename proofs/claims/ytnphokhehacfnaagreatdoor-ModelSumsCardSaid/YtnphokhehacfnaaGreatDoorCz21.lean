/-
  Texts put together: Xp.
-/
import Derived.Test.YtnphokhehacfnaaGreatDoorCz15
import Derived.Test.YtnphokhehacfnaaGreatDoorCz20
namespace Go.Proofs.YtnphokhehacfnaaGreatDoor
open Go.RowKit

/-- What a read of rows answers. -/
def readR (t : Tb) (o : Opp) : Except Int (List ByteArray × List (List Val)) := if tabB t = false then .error 9 else readN t o
def ReadOut (w : World) (r : Except Int (List ByteArray × List (List Val))) (e : Ending) (w' : World) : Prop :=
  match r with
  | .error c => e = .returned (ansV c Val.zero)
  | .ok p => ∃ (An : Option Addr) (cn : Nat) (os : List RowA) (Ar : Option Addr) (cr : Nat), RowsOut w' w.heap.size p.1 p.2 An cn os Ar cr ∧ e = .returned (.agg #[.int .i64 0, .slice An p.1.length cn, .slice Ar os.length cr, .int .i64 0, .int .i64 0, .bool false, .string ⟨#[]⟩])
theorem RowsOut.more {w : World} {base base' : Nat} {ns : List ByteArray} {vss : List (List Val)} {An : Option Addr} {cn : Nat} {os : List RowA} {Ar : Option Addr} {cr : Nat} (h : RowsOut w base ns vss An cn os Ar cr) (hb : base' ≤ base) : RowsOut w base' ns vss An cn os Ar cr := ⟨h.names.more hb, h.rows.more hb, h.asc, h.perm⟩
theorem RowsOut.grownE {w w' : World} {base U : Nat} {ns : List ByteArray} {vss : List (List Val)} {An : Option Addr} {cn : Nat} {os : List RowA} {Ar : Option Addr} {cr : Nat} {cs : List Value} (h : RowsOut w base ns vss An cn os Ar cr) (hu : Blk w U 59 cs) (hg : w.grownBy w' (some U)) : RowsOut w' base ns vss An cn os Ar cr := ⟨h.names.grownE hu hg (by decide), h.rows.grownE hu hg (by decide), h.asc, h.perm⟩
theorem RowsOut.fut {w w' : World} {base : Nat} {ns : List ByteArray} {vss : List (List Val)} {An : Option Addr} {cn : Nat} {os : List RowA} {Ar : Option Addr} {cr : Nat} (h : RowsOut w base ns vss An cn os Ar cr) [Fut w w'] : RowsOut w' base ns vss An cn os Ar cr := ⟨h.names.fut, h.rows.fut, h.asc, h.perm⟩
theorem readN_err {t : Tb} {o : Opp} {c : Int} (h : readN t o = .error c) : c ≠ 0 := by
  rw [readN_eq] at h
  split at h
  · injection h with h; omega
  · split at h
    · rename_i hq
      unfold yesP at hq
      split at hq
      · injection hq with hq; injection h with h; omega
      · cases hq
    · unfold readNB at h
      split at h
      · injection h with h; omega
      · cases h
set_option maxRecDepth 100000 in
set_option maxHeartbeats 8000000 in
theorem readN_ok {w0 : World} (t : TbA) (o : OpA) (w : World) (hin : TbIn w0 t) [f0 : Fut w0 w] (hm : tabB t.tb = true) (ns : List ByteArray) (vss : List (List Val)) (P : Ending → World → Prop)
    (hrun : ∀ (g D T O U : Nat) (t' : TbA) (w' : World), Fut w w' → Doer w' g D T O t' o → Blk w' U 59 [.int .i64 0, .slice none 0 0, .slice none 0 0, .int .i64 0, .int .i64 0, .bool false, .string ⟨#[]⟩] → t'.tb = t.tb → Calls Tryz.prog 75 #[.pointer (some ⟨D, 0, none⟩), .pointer (some ⟨U, 0, none⟩)] w' fun e w'' => ReadNR U (.int .i64 0) (.int .i64 0) (.int .i64 0) (.bool false) (.string ⟨#[]⟩) w' (.ok (ns, vss)) e w'')
    (hP : ∀ (An : Option Addr) (cn : Nat) (os : List RowA) (Ar : Option Addr) (cr : Nat) (w' : World), RowsOut w' w.heap.size ns vss An cn os Ar cr → Step w w' → P (.returned (.agg #[.int .i64 0, .slice An ns.length cn, .slice Ar os.length cr, .int .i64 0, .int .i64 0, .bool false, .string ⟨#[]⟩])) w') :
    Calls Tryz.prog 32 #[.agg #[.int .i64 t.s.id, .slice t.As t.s.cols.length t.cs, .int .i64 t.s.next, .int .i64 t.sid, .slice t.Af t.fs.length t.cf, .slice t.Ar t.rs.length t.cr], .agg #[.int .i64 o.kind, .string o.txn, .slice o.Ac o.cols.length o.cc, .slice o.Ar o.rows.length o.cr, .slice o.An o.ns.length o.cn, .string o.col, .string o.name, .int .i64 o.ck, .int .i64 o.v.kind, .int .i64 o.v.i, .bool o.v.b, .string o.v.s, .slice o.Af o.fs.length o.cf, .int .i64 o.ver, .int .i64 o.time, .int .i64 o.agg]] w P := by
  have MY := hide (fun (w' : World) (hq : Fut w w') => haveI := Fut.tr f0 hq; mmay_any t w' hin)
  have MC := hide (fun (w' : World) (hq : Fut w w') => haveI := Fut.tr f0 hq; mclone_any t w' hin)
  have hmf : ∀ (fn : Fn) (first cap : Array Value) (w : World), (Instr.makeFunc fn first cap).run Tryz.prog w = .ok (.func fn first cap) w := fun _ _ _ _ => rfl
  obtain ⟨W, hW⟩ : ∃ x : World, x = ((w.alloc (.cells #[.int .i64 t.s.id, .slice t.As t.s.cols.length t.cs, .int .i64 t.s.next, .int .i64 t.sid, .slice t.Af t.fs.length t.cf, .slice t.Ar t.rs.length t.cr] 30)).alloc (.cells #[.int .i64 o.kind, .string o.txn, .slice o.Ac o.cols.length o.cc, .slice o.Ar o.rows.length o.cr, .slice o.An o.ns.length o.cn, .string o.col, .string o.name, .int .i64 o.ck, .int .i64 o.v.kind, .int .i64 o.v.i, .bool o.v.b, .string o.v.s, .slice o.Af o.fs.length o.cf, .int .i64 o.ver, .int .i64 o.time, .int .i64 o.agg] 38)).alloc (.cells #[.int .i64 0, .slice none 0 0, .slice none 0 0, .int .i64 0, .int .i64 0, .bool false, .string ⟨#[]⟩] 59) := ⟨_, rfl⟩
  have SW : Step w W := by rw [hW]; exact Step.of
  have HT : Hid (Blk W w.heap.size 30 [.int .i64 t.s.id, .slice t.As t.s.cols.length t.cs, .int .i64 t.s.next, .int .i64 t.sid, .slice t.Af t.fs.length t.cf, .slice t.Ar t.rs.length t.cr]) := by rw [hW]; exact ((Blk.new w _ 30).alloc _).alloc _
  have HO : Hid (Blk W (w.heap.size + 1) 38 [.int .i64 o.kind, .string o.txn, .slice o.Ac o.cols.length o.cc, .slice o.Ar o.rows.length o.cr, .slice o.An o.ns.length o.cn, .string o.col, .string o.name, .int .i64 o.ck, .int .i64 o.v.kind, .int .i64 o.v.i, .bool o.v.b, .string o.v.s, .slice o.Af o.fs.length o.cf, .int .i64 o.ver, .int .i64 o.time, .int .i64 o.agg]) := by rw [hW]; exact (Blk.new_at (by simp) _ 38).alloc _
  have HU : Hid (Blk W (w.heap.size + 2) 59 [.int .i64 0, .slice none 0 0, .slice none 0 0, .int .i64 0, .int .i64 0, .bool false, .string ⟨#[]⟩]) := by rw [hW]; exact Blk.new_at (by simp) _ 59
  have hzW : w.heap.size + 3 = W.heap.size := by rw [hW]; simp
  have HZW := hide hzW
  clear hzW
  have HRN := hide hrun
  have HPP := hide hP
  rw [hm] at MY
  clear hm hrun hP
  go_enter_defers Tryz.func32, Tryz.ntmps32
  go_upto_region 1 with fail
  rw [← hW]
  clear hW
  obtain ⟨t0, t1, t2, t3, t4, t5⟩ := At.z6 (HT.out.fut (w' := W)).at0
  have lt_ := (HT.out.fut (w' := W)).lt
  have ub := HU.out.fut (w' := W)
  obtain ⟨u0, u1, u2, u3, u4, u5, u6⟩ := At.z7 ub.at0
  have lu := ub.lt
  have fu := ub.free
  clear ub
  go_upto_region 4 with (clear u0 u1 u2 u3 u4 u5 u6 lu fu; (go_at_call 19; (with_reducible refine (MY.out _ inferInstance).mono ?_); rintro e w3 ⟨rfl, hs3⟩; clear t0 t1 t2 t3 t4 t5 lt_; obtain ⟨t0, t1, t2, t3, t4, t5⟩ := At.z6 (HT.out.fut (w' := w3)).at0; have lt_ := (HT.out.fut (w' := w3)).lt; have ub := HU.out.fut (w' := w3); obtain ⟨u0, u1, u2, u3, u4, u5, u6⟩ := At.z7 ub.at0; have lu := ub.lt; have fu := ub.free; clear ub))
  obtain ⟨W5, hW5⟩ : ∃ x : World, x = w3.alloc (.cells #[.int .i64 0] 3) := ⟨_, rfl⟩
  have SW5 : Step w3 W5 := by rw [hW5]; exact Step.of
  have HE : Hid (Blk W5 w3.heap.size 3 [.int .i64 0]) := by rw [hW5]; exact Blk.new w3 _ 3
  have hz5 : W5.heap.size = w3.heap.size + 1 := by rw [hW5]; simp
  have HZ5 := hide hz5
  rw [← hW5]
  clear hW5 hz5 u0 u1 u2 u3 u4 u5 u6 lu fu
  clear t0 t1 t2 t3 t4 t5 lt_
  obtain ⟨t0, t1, t2, t3, t4, t5⟩ := At.z6 (HT.out.fut (w' := W5)).at0
  have lt_ := (HT.out.fut (w' := W5)).lt
  have hNe : w.heap.size + 3 ≤ w3.heap.size := by have := (fut W w3).size; have := HZW.out; omega
  go_upto_region 7 with (go_at_call 41; (with_reducible refine (MC.out _ inferInstance).mono ?_); rintro e w4 ⟨Ac, cc, Af, cf, os, A', c', rfl, hos, hol, hown, hs4⟩; have HOS := hide hos; have HOL := hide hol; have HOW := hide hown; clear hos hol hown)
  clear t0 t1 t2 t3 t4 t5 lt_
  obtain ⟨X1, hX1⟩ : ∃ x : World, x = w4.alloc (.cells #[.int .i64 t.s.id, .slice Ac t.s.cols.length cc, .int .i64 t.s.next, .int .i64 t.sid, .slice Af t.fs.length cf, .slice A' t.rs.length c'] 30) := ⟨_, rfl⟩
  have SX1 : Step w4 X1 := by rw [hX1]; exact Step.of
  have hz1 : X1.heap.size = w4.heap.size + 1 := by rw [hX1]; simp
  have HB1 : Hid (Blk X1 w4.heap.size 30 [.int .i64 t.s.id, .slice Ac t.s.cols.length cc, .int .i64 t.s.next, .int .i64 t.sid, .slice Af t.fs.length cf, .slice A' t.rs.length c']) := by rw [hX1]; exact Blk.new w4 _ 30
  rw [← hX1]
  obtain ⟨X2, hX2⟩ : ∃ x : World, x = X1.alloc (.cells #[.pointer (some ⟨w4.heap.size, 0, none⟩), .pointer (some ⟨w.heap.size + 1, 0, none⟩)] 86) := ⟨_, rfl⟩
  have SX2 : Step X1 X2 := by rw [hX2]; exact Step.of
  have HDB : Hid (Blk X2 (w4.heap.size + 1) 86 [.pointer (some ⟨w4.heap.size, 0, none⟩), .pointer (some ⟨w.heap.size + 1, 0, none⟩)]) := by rw [hX2]; exact Blk.new_at hz1 _ 86
  have HX2 := hide hX2
  have HZ1 := hide hz1
  have hg3 : W5.heap.size ≤ w4.heap.size := (fut W5 w4).size
  have HDR : Hid (Doer X2 W5.heap.size (w4.heap.size + 1) w4.heap.size (w.heap.size + 1) ⟨t.s, Ac, cc, t.sid, t.fs, Af, cf, os, A', c'⟩ o) := ⟨HDB.out, by
    show Blk _ _ _ [_, _, _, _, _, .slice A' os.length c']
    rw [HOL.out]
    exact HB1.out.fut, HO.out.fut, HOW.out.fut, hg3⟩
  have HRUN := hide (HRN.out W5.heap.size (w4.heap.size + 1) w4.heap.size (w.heap.size + 1) (w.heap.size + 2) ⟨t.s, Ac, cc, t.sid, t.fs, Af, cf, os, A', c'⟩ X2 (Fut.mk' (fut w X2)) HDR.out HU.out.fut (by simp only [TbA.tb]; rw [HOS.out]))
  clear hX1 hX2 hz1
  go_wp2_with (go_at_call 75; rw [HX2.out.symm]; rw [show X1.heap.size = w4.heap.size + 1 from HZ1.out]; (with_reducible refine HRUN.out.mono ?_); rintro e w9 ⟨rfl, hg9, An, cn, os9, Ar, cr, hro, hub9⟩; have HRO := hide hro; have HB9 := hide hub9; clear hro hub9; have HE9 := hide ((HE.out.fut (w' := X2)).grown hg9 (by intro hh; injection hh with hh; omega)); have hb9 : Below w.heap.size w w9 := (fut w X2).trans (show Below w.heap.size X2 w9 from ⟨hg9.os, hg9.tape, hg9.output, hg9.size, fun k hk => hg9.block k (Nat.lt_of_lt_of_le hk (fut w X2).size) (by intro hh; injection hh with hh; omega)⟩); clear hg9; have hs9 : Step w w9 := ⟨hb9⟩; obtain ⟨u0, u1, u2, u3, u4, u5, u6⟩ := At.z7 HB9.out.at0; have lu := HB9.out.lt; have fu := HB9.out.free)
  have B4 := set7D_blk HB9.out (.int .i64 0) (.slice An ns.length cn) (.slice Ar os9.length cr) (.int .i64 0) (.int .i64 0) (.bool false) (.string ⟨#[]⟩)
  have E4 := set7D_far HE9.out (b := w.heap.size + 2) (by omega) (.int .i64 0) (.slice An ns.length cn) (.slice Ar os9.length cr) (.int .i64 0) (.int .i64 0) (.bool false) (.string ⟨#[]⟩)
  have b5 := set7D_below (fut w w9) (show w.heap.size ≤ w.heap.size + 2 by omega) (.int .i64 0) (.slice An ns.length cn) (.slice Ar os9.length cr) (.int .i64 0) (.int .i64 0) (.bool false) (.string ⟨#[]⟩)
  have RO := (HRO.out.more (fut w X2).size).grownE HB9.out (set7D_grown w9 (w.heap.size + 2) (.int .i64 0) (.slice An ns.length cn) (.slice Ar os9.length cr) (.int .i64 0) (.int .i64 0) (.bool false) (.string ⟨#[]⟩))
  obtain ⟨Y, hY⟩ : ∃ y : World, y = set7D w9 (w.heap.size + 2) (.int .i64 0) (.slice An ns.length cn) (.slice Ar os9.length cr) (.int .i64 0) (.int .i64 0) (.bool false) (.string ⟨#[]⟩) := ⟨_, rfl⟩
  rw [← hY] at B4 E4 b5 RO
  unfold set7D at hY
  rw [← hY]
  clear hY u0 u1 u2 u3 u4 u5 u6 lu fu
  refine leaves_cons (f := 43) (args := #[.pointer (some ⟨w3.heap.size, 0, none⟩)]) (by simp) (by simp [go_sem]) ?_
  refine (catch_idle _ _).mono ?_
  rintro e u' w'' ⟨rfl, rfl, rfl⟩
  refine leaves_cons (f := 74) (args := #[.pointer (some ⟨w3.heap.size, 0, none⟩), .pointer (some ⟨w.heap.size + 2, 0, none⟩)]) (by simp [settle]) (by simp [go_sem]) ?_
  refine (clrR_no w3.heap.size (w.heap.size + 2) 3 _ _ E4).mono ?_
  rintro e u' w'' ⟨rfl, rfl, rfl⟩
  obtain ⟨c0, c1, c2, c3, c4, c5, c6⟩ := At.z7 B4.at0
  simp [Leaves, settle, results, Tryz.results32, go_sem, c0, c1, c2, c3, c4, c5, c6]
  exact HPP.out An cn os9 Ar cr _ RO ⟨b5⟩
/-- Read of rows. -/
theorem readRows {w0 w1 : World} (t : TbA) (o : OpA) (w : World) (hin : TbIn w0 t) (ho : OpIn w1 o) [f0 : Fut w0 w] [f1 : Fut w1 w] (hag : o.agg = 0) (hcn : o.cols.length ≤ 3518437208780) (hfine : ∀ vs ∈ t.tb.rows, ∀ v ∈ vs, FineD v) :
    Calls Tryz.prog 32 #[t.val, .agg #[.int .i64 o.kind, .string o.txn, .slice o.Ac o.cols.length o.cc, .slice o.Ar o.rows.length o.cr, .slice o.An o.ns.length o.cn, .string o.col, .string o.name, .int .i64 o.ck, .int .i64 o.v.kind, .int .i64 o.v.i, .bool o.v.b, .string o.v.s, .slice o.Af o.fs.length o.cf, .int .i64 o.ver, .int .i64 o.time, .int .i64 o.agg]] w fun e w' => ReadOut w (readR t.tb o.op) e w' ∧ Step w w' := by
  cases hm : tabB t.tb with
  | false =>
    rw [readR, if_pos hm]
    exact read_form t o w hin hm
  | true =>
    have hr : ∀ (g D T O U : Nat) (t' : TbA) (w' : World), Fut w w' → Doer w' g D T O t' o → Blk w' U 59 [.int .i64 0, .slice none 0 0, .slice none 0 0, .int .i64 0, .int .i64 0, .bool false, .string ⟨#[]⟩] → t'.tb = t.tb → Calls Tryz.prog 75 #[.pointer (some ⟨D, 0, none⟩), .pointer (some ⟨U, 0, none⟩)] w' fun e w'' => ReadNR U (.int .i64 0) (.int .i64 0) (.int .i64 0) (.bool false) (.string ⟨#[]⟩) w' (readN t.tb o.op) e w'' := by
      intro g D T O U t' w' hq hd hu he
      haveI := Fut.tr f1 hq
      have hs := tb_smallR hm he
      have hx : t'.rs.map RowA.vs = t.tb.rows := congrArg Tb.rows he
      rw [← he]
      exact readN_any g D T O U t' o _ _ _ _ _ _ _ w' hd hu ho (of_tbR hin.fine he) hs.2 (fun vs hvs => by
        rw [hx] at hvs
        have := List.all_eq_true.1 (tabB_iff.1 hm).2.2.2 vs hvs
        rw [rowW, Bool.and_eq_true, beq_iff_eq] at this
        rw [show t'.s = t.tb.s from congrArg Tb.s he]
        exact this.1) (fun vs hvs => hfine vs (by rw [hx] at hvs; exact hvs)) hag hcn hs.1
    rw [readR, if_neg (by rw [hm]; simp)]
    cases hR : readN t.tb o.op with
    | error c =>
      rw [hR] at hr
      exact read_err t o w hin hm c (readN_err hR) hr
    | ok p =>
      rw [hR] at hr
      exact readN_ok t o w hin hm p.1 p.2 (fun e w' => ReadOut w (.ok p) e w' ∧ Step w w') hr fun An cn os Ar cr w' h1 h2 => ⟨⟨An, cn, os, Ar, cr, h1, rfl⟩, h2⟩
end Go.Proofs.YtnphokhehacfnaaGreatDoor

