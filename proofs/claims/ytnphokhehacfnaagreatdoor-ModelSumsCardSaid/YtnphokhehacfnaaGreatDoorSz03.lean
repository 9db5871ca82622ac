/-
  Texts put together: Xt1.
-/
import Derived.Test.YtnphokhehacfnaaGreatDoorSz02
import Derived.Test.YtnphokhehacfnaaGreatDoorSz90
import Derived.Test.YtnphokhehacfnaaGreatDoorSz91
namespace Go.Proofs.YtnphokhehacfnaaGreatDoor
open Go.RowKit

set_option maxRecDepth 100000 in
set_option maxHeartbeats 16000000 in
theorem sums_no {v0 v1 : World} (t : TbA) (o : OpA) (w : World) (hin : TbIn v0 t) (hop : OpIn v1 o) (hfi : ∀ vs ∈ t.tb.rows, ∀ v ∈ vs, FineD v) [f0 : Fut v0 w] [f1 : Fut v1 w] {c : Int} (hR : readR t.tb (opS o.op 0) = .error c) :
    Calls Tryz.prog 7 #[.agg #[.int .i64 t.s.id, .slice t.As t.s.cols.length t.cs, .int .i64 t.s.next, .int .i64 t.sid, .slice t.Af t.fs.length t.cf, .slice t.Ar t.rs.length t.cr], .agg #[.int .i64 o.kind, .string o.txn, .slice o.Ac o.cols.length o.cc, .slice o.Ar o.rows.length o.cr, .slice o.An o.ns.length o.cn, .string o.col, .string o.name, .int .i64 o.ck, .int .i64 o.v.kind, .int .i64 o.v.i, .bool o.v.b, .string o.v.s, .slice o.Af o.fs.length o.cf, .int .i64 o.ver, .int .i64 o.time, .int .i64 o.agg]] w fun e w' => e = .returned (.bool true) ∧ Step w w' := by
  have HIN := hide hin; have HOP := hide hop; have HFI := hide hfi
  have HR := hide hR
  have HC0 : Hid (c ≠ 0) := readR_err hR
  clear hR
  clear hin hop hfi
  obtain ⟨W, hW⟩ : ∃ x : World, x = (w.alloc (.cells #[.int .i64 t.s.id, .slice t.As t.s.cols.length t.cs, .int .i64 t.s.next, .int .i64 t.sid, .slice t.Af t.fs.length t.cf, .slice t.Ar t.rs.length t.cr] 30)).alloc (.cells #[.int .i64 o.kind, .string o.txn, .slice o.Ac o.cols.length o.cc, .slice o.Ar o.rows.length o.cr, .slice o.An o.ns.length o.cn, .string o.col, .string o.name, .int .i64 o.ck, .int .i64 o.v.kind, .int .i64 o.v.i, .bool o.v.b, .string o.v.s, .slice o.Af o.fs.length o.cf, .int .i64 o.ver, .int .i64 o.time, .int .i64 o.agg] 38) := ⟨_, rfl⟩
  have SW : Step w W := by rw [hW]; exact Step.of
  have HT : Hid (Blk W w.heap.size 30 [.int .i64 t.s.id, .slice t.As t.s.cols.length t.cs, .int .i64 t.s.next, .int .i64 t.sid, .slice t.Af t.fs.length t.cf, .slice t.Ar t.rs.length t.cr]) := by rw [hW]; exact (Blk.new w _ 30).alloc _
  have HO : Hid (Blk W (w.heap.size + 1) 38 [.int .i64 o.kind, .string o.txn, .slice o.Ac o.cols.length o.cc, .slice o.Ar o.rows.length o.cr, .slice o.An o.ns.length o.cn, .string o.col, .string o.name, .int .i64 o.ck, .int .i64 o.v.kind, .int .i64 o.v.i, .bool o.v.b, .string o.v.s, .slice o.Af o.fs.length o.cf, .int .i64 o.ver, .int .i64 o.time, .int .i64 o.agg]) := by rw [hW]; exact Blk.new_at (by simp) _ 38
  obtain ⟨t0, t1, t2, t3, t4, t5⟩ := At.z6 (HT.out.fut (w' := W)).at0
  have lt := (HT.out.fut (w' := W)).lt
  obtain ⟨o0, o1, o2, o3, o4, o5, o6, o7, o8, o9, o10, o11, o12, o13, o14, o15⟩ := At.zOp (HO.out.fut (w' := W)).at0
  have lo := (HO.out.fut (w' := W)).lt
  have fo := (HO.out.fut (w' := W)).free
  go_enter Tryz.func7, Tryz.ntmps7
  go_upto_region 1 with fail
  rw [← hW]
  clear hW
  go_upto_region 6 with (go_at_call 31; (with_reducible refine (awake25_any _).mono ?_); rintro e w1 ⟨rfl, hs1⟩; clear t0 t1 t2 t3 t4 t5 lt; clear o0 o1 o2 o3 o4 o5 o6 o7 o8 o9 o10 o11 o12 o13 o14 o15 lo fo; obtain ⟨t0, t1, t2, t3, t4, t5⟩ := At.z6 (HT.out.fut (w' := w1)).at0; have lt := (HT.out.fut (w' := w1)).lt; obtain ⟨o0, o1, o2, o3, o4, o5, o6, o7, o8, o9, o10, o11, o12, o13, o14, o15⟩ := At.zOp (HO.out.fut (w' := w1)).at0; have lo := (HO.out.fut (w' := w1)).lt; have fo := (HO.out.fut (w' := w1)).free)
  obtain ⟨X5, hX5⟩ : ∃ x : World, x = (((w1.setCell ⟨w.heap.size + 1, 0, none⟩ (.int .i64 9)).setCell ⟨w.heap.size + 1, 15, none⟩ (.int .i64 0)).setCell ⟨w.heap.size + 1, 2, none⟩ (.slice (some ⟨w1.heap.size, 0, none⟩) 1 1)).alloc (.cells #[.string o.col] 9) := ⟨_, rfl⟩
  have hou := HO.out.fut (w' := w1)
  have htu := HT.out.fut (w' := w1)
  have hne : w.heap.size ≠ w.heap.size + 1 := by omega
  have HO5 : Hid (Blk X5 (w.heap.size + 1) 38 [.int .i64 9, .string o.txn, .slice (some ⟨w1.heap.size, 0, none⟩) 1 1, .slice o.Ar o.rows.length o.cr, .slice o.An o.ns.length o.cn, .string o.col, .string o.name, .int .i64 o.ck, .int .i64 o.v.kind, .int .i64 o.v.i, .bool o.v.b, .string o.v.s, .slice o.Af o.fs.length o.cf, .int .i64 o.ver, .int .i64 o.time, .int .i64 0]) := by rw [hX5]; exact (((hou.set_ 0 (.int .i64 9)).set_ 15 (.int .i64 0)).set_ 2 _).alloc (.cells #[.string o.col] 9)
  have HT5 : Hid (Blk X5 w.heap.size 30 [.int .i64 t.s.id, .slice t.As t.s.cols.length t.cs, .int .i64 t.s.next, .int .i64 t.sid, .slice t.Af t.fs.length t.cf, .slice t.Ar t.rs.length t.cr]) := by rw [hX5]; exact (((htu.far (p := ⟨w.heap.size + 1, 0, none⟩) hne (.int .i64 9)).far (p := ⟨w.heap.size + 1, 15, none⟩) hne (.int .i64 0)).far (p := ⟨w.heap.size + 1, 2, none⟩) hne _).alloc (.cells #[.string o.col] 9)
  have HS5 : Hid (Blk X5 w1.heap.size 9 [.string o.col]) := by rw [hX5]; exact Blk.new_at (by simp) _ 9
  have hb5 : Below w.heap.size w X5 := by
    rw [hX5]
    have b1 := (((fut w w1).setCell (p := ⟨w.heap.size + 1, 0, none⟩) (by show w.heap.size ≤ w.heap.size + 1; omega) (.int .i64 9)).setCell (p := ⟨w.heap.size + 1, 15, none⟩) (by show w.heap.size ≤ w.heap.size + 1; omega) (.int .i64 0)).setCell (p := ⟨w.heap.size + 1, 2, none⟩) (by show w.heap.size ≤ w.heap.size + 1; omega) (.slice (some ⟨w1.heap.size, 0, none⟩) 1 1)
    exact b1.alloc b1.size (.cells #[.string o.col] 9)
  rw [← hX5]
  clear hX5 hou htu hne
  have SX5 : Step w X5 := ⟨hb5⟩
  clear hb5
  clear t0 t1 t2 t3 t4 t5 lt
  clear o0 o1 o2 o3 o4 o5 o6 o7 o8 o9 o10 o11 o12 o13 o14 o15 lo fo
  have HP5 : Hid (OpIn X5 ⟨9, o.txn, [o.col], (some ⟨w1.heap.size, 0, none⟩), 1, o.rows, o.Ar, o.cr, o.ns, o.An, o.cn, o.col, o.name, o.ck, o.v, o.fs, o.Af, o.cf, o.ver, o.time, 0⟩) := ⟨one_strS HS5.out, by show 1 ≤ _; decide, Nat.le_refl 1, HOP.out.rows.fut, HOP.out.fine, HOP.out.prd.fut, HOP.out.flds.fut, HOP.out.fsm, HOP.out.val, HOP.out.name⟩
  have RA : Hid (∀ (w' : World), Fut X5 w' → Calls Tryz.prog 32 #[.agg #[.int .i64 t.s.id, .slice t.As t.s.cols.length t.cs, .int .i64 t.s.next, .int .i64 t.sid, .slice t.Af t.fs.length t.cf, .slice t.Ar t.rs.length t.cr], .agg #[.int .i64 9, .string o.txn, .slice (some ⟨w1.heap.size, 0, none⟩) 1 1, .slice o.Ar o.rows.length o.cr, .slice o.An o.ns.length o.cn, .string o.col, .string o.name, .int .i64 o.ck, .int .i64 o.v.kind, .int .i64 o.v.i, .bool o.v.b, .string o.v.s, .slice o.Af o.fs.length o.cf, .int .i64 o.ver, .int .i64 o.time, .int .i64 0]] w' fun e w'' => e = .returned (.agg #[.int .i64 c, .slice none 0 0, .slice none 0 0, .int .i64 0, .int .i64 0, .bool false, .string ⟨#[]⟩]) ∧ Step w' w'') := fun w' hq => by
    haveI : Fut v0 w' := Fut.tr (Fut.tr f0 (fut_of (fut w X5))) hq
    have := readRows (w0 := v0) (w1 := X5) t ⟨9, o.txn, [o.col], (some ⟨w1.heap.size, 0, none⟩), 1, o.rows, o.Ar, o.cr, o.ns, o.An, o.cn, o.col, o.name, o.ck, o.v, o.fs, o.Af, o.cf, o.ver, o.time, 0⟩ w' HIN.out HP5.out rfl (by show 1 ≤ _; decide) HFI.out
    rw [show readR t.tb (OpA.op ⟨9, o.txn, [o.col], (some ⟨w1.heap.size, 0, none⟩), 1, o.rows, o.Ar, o.cr, o.ns, o.An, o.cn, o.col, o.name, o.ck, o.v, o.fs, o.Af, o.cf, o.ver, o.time, 0⟩) = _ from HR.out] at this
    exact this
  obtain ⟨t0, t1, t2, t3, t4, t5⟩ := At.z6 (HT5.out.fut (w' := X5)).at0
  have lt := (HT5.out.fut (w' := X5)).lt
  obtain ⟨o0, o1, o2, o3, o4, o5, o6, o7, o8, o9, o10, o11, o12, o13, o14, o15⟩ := At.zOp (HO5.out.fut (w' := X5)).at0
  have lo := (HO5.out.fut (w' := X5)).lt
  have fo := (HO5.out.fut (w' := X5)).free
  go_upto_region 7 with (go_at_call 32; (with_reducible refine (RA.out _ inferInstance).mono ?_); rintro e w2 ⟨rfl, hsw2⟩)
  clear t0 t1 t2 t3 t4 t5 lt
  clear o0 o1 o2 o3 o4 o5 o6 o7 o8 o9 o10 o11 o12 o13 o14 o15 lo fo
  obtain ⟨X6, hX6⟩ : ∃ x : World, x = w2.alloc (.cells #[.int .i64 c, .slice none 0 0, .slice none 0 0, .int .i64 0, .int .i64 0, .bool false, .string ⟨#[]⟩] 59) := ⟨_, rfl⟩
  have SX6 : Step w2 X6 := by rw [hX6]; exact Step.of
  have HA6 : Hid (Blk X6 w2.heap.size 59 [.int .i64 c, .slice none 0 0, .slice none 0 0, .int .i64 0, .int .i64 0, .bool false, .string ⟨#[]⟩]) := by rw [hX6]; exact Blk.new w2 _ 59
  rw [← hX6]
  clear hX6
  obtain ⟨t0, t1, t2, t3, t4, t5⟩ := At.z6 (HT5.out.fut (w' := X6)).at0
  have lt := (HT5.out.fut (w' := X6)).lt
  obtain ⟨o0, o1, o2, o3, o4, o5, o6, o7, o8, o9, o10, o11, o12, o13, o14, o15⟩ := At.zOp (HO5.out.fut (w' := X6)).at0
  have lo := (HO5.out.fut (w' := X6)).lt
  have fo := (HO5.out.fut (w' := X6)).free
  go_upto_region 8 with fail
  clear t0 t1 t2 t3 t4 t5 lt
  clear o0 o1 o2 o3 o4 o5 o6 o7 o8 o9 o10 o11 o12 o13 o14 o15 lo fo
  obtain ⟨X7, hX7⟩ : ∃ x : World, x = X6.setCell ⟨w.heap.size + 1, 15, none⟩ (.int .i64 1) := ⟨_, rfl⟩
  have hbX7 : Below w.heap.size w X7 := by rw [hX7]; exact (fut w X6).setCell (p := ⟨w.heap.size + 1, 15, none⟩) (by show w.heap.size ≤ w.heap.size + 1; omega) _
  have hou := HO5.out.fut (w' := X6)
  have HO7 : Hid (Blk X7 (w.heap.size + 1) 38 [.int .i64 9, .string o.txn, .slice (some ⟨w1.heap.size, 0, none⟩) 1 1, .slice o.Ar o.rows.length o.cr, .slice o.An o.ns.length o.cn, .string o.col, .string o.name, .int .i64 o.ck, .int .i64 o.v.kind, .int .i64 o.v.i, .bool o.v.b, .string o.v.s, .slice o.Af o.fs.length o.cf, .int .i64 o.ver, .int .i64 o.time, .int .i64 1]) := by rw [hX7]; exact hou.set_ 15 _
  have HT7 : Hid (Blk X7 (w.heap.size) 30 [.int .i64 t.s.id, .slice t.As t.s.cols.length t.cs, .int .i64 t.s.next, .int .i64 t.sid, .slice t.Af t.fs.length t.cf, .slice t.Ar t.rs.length t.cr]) := by rw [hX7]; exact (HT5.out.fut (w' := X6)).far (p := ⟨w.heap.size + 1, 15, none⟩) ((HT5.out.fut (w' := X6)).ne_ hou (by decide)) _
  have HS7 : Hid (Blk X7 (w1.heap.size) 9 [.string o.col]) := by rw [hX7]; exact (HS5.out.fut (w' := X6)).far (p := ⟨w.heap.size + 1, 15, none⟩) ((HS5.out.fut (w' := X6)).ne_ hou (by decide)) _
  have HA7 : Hid (Blk X7 (w2.heap.size) 59 [.int .i64 c, .slice none 0 0, .slice none 0 0, .int .i64 0, .int .i64 0, .bool false, .string ⟨#[]⟩]) := by rw [hX7]; exact (HA6.out.fut (w' := X6)).far (p := ⟨w.heap.size + 1, 15, none⟩) ((HA6.out.fut (w' := X6)).ne_ hou (by decide)) _
  have hzX7 : X7.heap.size = X6.heap.size := by rw [hX7]; simp
  rw [← hX7]
  have SX7 : Step w X7 := ⟨hbX7⟩
  clear hX7 hou hbX7
  have HP7 : Hid (OpIn X7 ⟨9, o.txn, [o.col], (some ⟨w1.heap.size, 0, none⟩), 1, o.rows, o.Ar, o.cr, o.ns, o.An, o.cn, o.col, o.name, o.ck, o.v, o.fs, o.Af, o.cf, o.ver, o.time, 1⟩) := ⟨one_strS HS7.out, by show 1 ≤ _; decide, Nat.le_refl 1, HOP.out.rows.fut, HOP.out.fine, HOP.out.prd.fut, HOP.out.flds.fut, HOP.out.fsm, HOP.out.val, HOP.out.name⟩
  have RB : Hid (∀ (w' : World), Fut X7 w' → Calls Tryz.prog 32 #[.agg #[.int .i64 t.s.id, .slice t.As t.s.cols.length t.cs, .int .i64 t.s.next, .int .i64 t.sid, .slice t.Af t.fs.length t.cf, .slice t.Ar t.rs.length t.cr], .agg #[.int .i64 9, .string o.txn, .slice (some ⟨w1.heap.size, 0, none⟩) 1 1, .slice o.Ar o.rows.length o.cr, .slice o.An o.ns.length o.cn, .string o.col, .string o.name, .int .i64 o.ck, .int .i64 o.v.kind, .int .i64 o.v.i, .bool o.v.b, .string o.v.s, .slice o.Af o.fs.length o.cf, .int .i64 o.ver, .int .i64 o.time, .int .i64 1]] w' fun e w'' => e = .returned (.agg #[.int .i64 c, .slice none 0 0, .slice none 0 0, .int .i64 0, .int .i64 0, .bool false, .string ⟨#[]⟩]) ∧ Step w' w'') := fun w' hq => by
    haveI : Fut v0 w' := Fut.tr (Fut.tr f0 (fut_of (fut w X7))) hq
    have := readAgg (w0 := v0) (w1 := X7) t ⟨9, o.txn, [o.col], (some ⟨w1.heap.size, 0, none⟩), 1, o.rows, o.Ar, o.cr, o.ns, o.An, o.cn, o.col, o.name, o.ck, o.v, o.fs, o.Af, o.cf, o.ver, o.time, 1⟩ w' HIN.out HP7.out (by show (1 : Int) ≠ 0; decide) HFI.out
    rw [show readT t.tb (OpA.op ⟨9, o.txn, [o.col], (some ⟨w1.heap.size, 0, none⟩), 1, o.rows, o.Ar, o.cr, o.ns, o.An, o.cn, o.col, o.name, o.ck, o.v, o.fs, o.Af, o.cf, o.ver, o.time, 1⟩) = _ from sums_err HR.out (a := 1) (by omega) (by omega)] at this
    exact this
  obtain ⟨t0, t1, t2, t3, t4, t5⟩ := At.z6 (HT7.out.fut (w' := X7)).at0
  have lt := (HT7.out.fut (w' := X7)).lt
  obtain ⟨o0, o1, o2, o3, o4, o5, o6, o7, o8, o9, o10, o11, o12, o13, o14, o15⟩ := At.zOp (HO7.out.fut (w' := X7)).at0
  have lo := (HO7.out.fut (w' := X7)).lt
  have fo := (HO7.out.fut (w' := X7)).free
  go_upto_region 9 with (go_at_call 32; (with_reducible refine (RB.out _ inferInstance).mono ?_); rintro e w3 ⟨rfl, hsw3⟩)
  clear t0 t1 t2 t3 t4 t5 lt
  clear o0 o1 o2 o3 o4 o5 o6 o7 o8 o9 o10 o11 o12 o13 o14 o15 lo fo
  obtain ⟨X8, hX8⟩ : ∃ x : World, x = w3.alloc (.cells #[.int .i64 c, .slice none 0 0, .slice none 0 0, .int .i64 0, .int .i64 0, .bool false, .string ⟨#[]⟩] 59) := ⟨_, rfl⟩
  have SX8 : Step w3 X8 := by rw [hX8]; exact Step.of
  have HB8 : Hid (Blk X8 w3.heap.size 59 [.int .i64 c, .slice none 0 0, .slice none 0 0, .int .i64 0, .int .i64 0, .bool false, .string ⟨#[]⟩]) := by rw [hX8]; exact Blk.new w3 _ 59
  rw [← hX8]
  clear hX8
  obtain ⟨t0, t1, t2, t3, t4, t5⟩ := At.z6 (HT7.out.fut (w' := X8)).at0
  have lt := (HT7.out.fut (w' := X8)).lt
  obtain ⟨o0, o1, o2, o3, o4, o5, o6, o7, o8, o9, o10, o11, o12, o13, o14, o15⟩ := At.zOp (HO7.out.fut (w' := X8)).at0
  have lo := (HO7.out.fut (w' := X8)).lt
  have fo := (HO7.out.fut (w' := X8)).free
  go_upto_region 10 with fail
  clear t0 t1 t2 t3 t4 t5 lt
  clear o0 o1 o2 o3 o4 o5 o6 o7 o8 o9 o10 o11 o12 o13 o14 o15 lo fo
  obtain ⟨X9, hX9⟩ : ∃ x : World, x = X8.setCell ⟨w.heap.size + 1, 15, none⟩ (.int .i64 3) := ⟨_, rfl⟩
  have hbX9 : Below w.heap.size w X9 := by rw [hX9]; exact (fut w X8).setCell (p := ⟨w.heap.size + 1, 15, none⟩) (by show w.heap.size ≤ w.heap.size + 1; omega) _
  have hou := HO7.out.fut (w' := X8)
  have HO9 : Hid (Blk X9 (w.heap.size + 1) 38 [.int .i64 9, .string o.txn, .slice (some ⟨w1.heap.size, 0, none⟩) 1 1, .slice o.Ar o.rows.length o.cr, .slice o.An o.ns.length o.cn, .string o.col, .string o.name, .int .i64 o.ck, .int .i64 o.v.kind, .int .i64 o.v.i, .bool o.v.b, .string o.v.s, .slice o.Af o.fs.length o.cf, .int .i64 o.ver, .int .i64 o.time, .int .i64 3]) := by rw [hX9]; exact hou.set_ 15 _
  have HT9 : Hid (Blk X9 (w.heap.size) 30 [.int .i64 t.s.id, .slice t.As t.s.cols.length t.cs, .int .i64 t.s.next, .int .i64 t.sid, .slice t.Af t.fs.length t.cf, .slice t.Ar t.rs.length t.cr]) := by rw [hX9]; exact (HT7.out.fut (w' := X8)).far (p := ⟨w.heap.size + 1, 15, none⟩) ((HT7.out.fut (w' := X8)).ne_ hou (by decide)) _
  have HS9 : Hid (Blk X9 (w1.heap.size) 9 [.string o.col]) := by rw [hX9]; exact (HS7.out.fut (w' := X8)).far (p := ⟨w.heap.size + 1, 15, none⟩) ((HS7.out.fut (w' := X8)).ne_ hou (by decide)) _
  have HA9 : Hid (Blk X9 (w2.heap.size) 59 [.int .i64 c, .slice none 0 0, .slice none 0 0, .int .i64 0, .int .i64 0, .bool false, .string ⟨#[]⟩]) := by rw [hX9]; exact (HA7.out.fut (w' := X8)).far (p := ⟨w.heap.size + 1, 15, none⟩) ((HA7.out.fut (w' := X8)).ne_ hou (by decide)) _
  have HB9 : Hid (Blk X9 (w3.heap.size) 59 [.int .i64 c, .slice none 0 0, .slice none 0 0, .int .i64 0, .int .i64 0, .bool false, .string ⟨#[]⟩]) := by rw [hX9]; exact (HB8.out.fut (w' := X8)).far (p := ⟨w.heap.size + 1, 15, none⟩) ((HB8.out.fut (w' := X8)).ne_ hou (by decide)) _
  have hzX9 : X9.heap.size = X8.heap.size := by rw [hX9]; simp
  rw [← hX9]
  have SX9 : Step w X9 := ⟨hbX9⟩
  clear hX9 hou hbX9
  have HP9 : Hid (OpIn X9 ⟨9, o.txn, [o.col], (some ⟨w1.heap.size, 0, none⟩), 1, o.rows, o.Ar, o.cr, o.ns, o.An, o.cn, o.col, o.name, o.ck, o.v, o.fs, o.Af, o.cf, o.ver, o.time, 3⟩) := ⟨one_strS HS9.out, by show 1 ≤ _; decide, Nat.le_refl 1, HOP.out.rows.fut, HOP.out.fine, HOP.out.prd.fut, HOP.out.flds.fut, HOP.out.fsm, HOP.out.val, HOP.out.name⟩
  have RC : Hid (∀ (w' : World), Fut X9 w' → Calls Tryz.prog 32 #[.agg #[.int .i64 t.s.id, .slice t.As t.s.cols.length t.cs, .int .i64 t.s.next, .int .i64 t.sid, .slice t.Af t.fs.length t.cf, .slice t.Ar t.rs.length t.cr], .agg #[.int .i64 9, .string o.txn, .slice (some ⟨w1.heap.size, 0, none⟩) 1 1, .slice o.Ar o.rows.length o.cr, .slice o.An o.ns.length o.cn, .string o.col, .string o.name, .int .i64 o.ck, .int .i64 o.v.kind, .int .i64 o.v.i, .bool o.v.b, .string o.v.s, .slice o.Af o.fs.length o.cf, .int .i64 o.ver, .int .i64 o.time, .int .i64 3]] w' fun e w'' => e = .returned (.agg #[.int .i64 c, .slice none 0 0, .slice none 0 0, .int .i64 0, .int .i64 0, .bool false, .string ⟨#[]⟩]) ∧ Step w' w'') := fun w' hq => by
    haveI : Fut v0 w' := Fut.tr (Fut.tr f0 (fut_of (fut w X9))) hq
    have := readAgg (w0 := v0) (w1 := X9) t ⟨9, o.txn, [o.col], (some ⟨w1.heap.size, 0, none⟩), 1, o.rows, o.Ar, o.cr, o.ns, o.An, o.cn, o.col, o.name, o.ck, o.v, o.fs, o.Af, o.cf, o.ver, o.time, 3⟩ w' HIN.out HP9.out (by show (3 : Int) ≠ 0; decide) HFI.out
    rw [show readT t.tb (OpA.op ⟨9, o.txn, [o.col], (some ⟨w1.heap.size, 0, none⟩), 1, o.rows, o.Ar, o.cr, o.ns, o.An, o.cn, o.col, o.name, o.ck, o.v, o.fs, o.Af, o.cf, o.ver, o.time, 3⟩) = _ from sums_err HR.out (a := 3) (by omega) (by omega)] at this
    exact this
  obtain ⟨t0, t1, t2, t3, t4, t5⟩ := At.z6 (HT9.out.fut (w' := X9)).at0
  have lt := (HT9.out.fut (w' := X9)).lt
  obtain ⟨o0, o1, o2, o3, o4, o5, o6, o7, o8, o9, o10, o11, o12, o13, o14, o15⟩ := At.zOp (HO9.out.fut (w' := X9)).at0
  have lo := (HO9.out.fut (w' := X9)).lt
  have fo := (HO9.out.fut (w' := X9)).free
  go_upto_region 11 with (go_at_call 32; (with_reducible refine (RC.out _ inferInstance).mono ?_); rintro e w4 ⟨rfl, hsw4⟩)
  clear t0 t1 t2 t3 t4 t5 lt
  clear o0 o1 o2 o3 o4 o5 o6 o7 o8 o9 o10 o11 o12 o13 o14 o15 lo fo
  obtain ⟨X10, hX10⟩ : ∃ x : World, x = w4.alloc (.cells #[.int .i64 c, .slice none 0 0, .slice none 0 0, .int .i64 0, .int .i64 0, .bool false, .string ⟨#[]⟩] 59) := ⟨_, rfl⟩
  have SX10 : Step w4 X10 := by rw [hX10]; exact Step.of
  have HC10 : Hid (Blk X10 w4.heap.size 59 [.int .i64 c, .slice none 0 0, .slice none 0 0, .int .i64 0, .int .i64 0, .bool false, .string ⟨#[]⟩]) := by rw [hX10]; exact Blk.new w4 _ 59
  rw [← hX10]
  clear hX10
  obtain ⟨t0, t1, t2, t3, t4, t5⟩ := At.z6 (HT9.out.fut (w' := X10)).at0
  have lt := (HT9.out.fut (w' := X10)).lt
  obtain ⟨o0, o1, o2, o3, o4, o5, o6, o7, o8, o9, o10, o11, o12, o13, o14, o15⟩ := At.zOp (HO9.out.fut (w' := X10)).at0
  have lo := (HO9.out.fut (w' := X10)).lt
  have fo := (HO9.out.fut (w' := X10)).free
  go_upto_region 12 with fail
  clear t0 t1 t2 t3 t4 t5 lt
  clear o0 o1 o2 o3 o4 o5 o6 o7 o8 o9 o10 o11 o12 o13 o14 o15 lo fo
  obtain ⟨X11, hX11⟩ : ∃ x : World, x = X10.setCell ⟨w.heap.size + 1, 15, none⟩ (.int .i64 4) := ⟨_, rfl⟩
  have hbX11 : Below w.heap.size w X11 := by rw [hX11]; exact (fut w X10).setCell (p := ⟨w.heap.size + 1, 15, none⟩) (by show w.heap.size ≤ w.heap.size + 1; omega) _
  have hou := HO9.out.fut (w' := X10)
  have HO11 : Hid (Blk X11 (w.heap.size + 1) 38 [.int .i64 9, .string o.txn, .slice (some ⟨w1.heap.size, 0, none⟩) 1 1, .slice o.Ar o.rows.length o.cr, .slice o.An o.ns.length o.cn, .string o.col, .string o.name, .int .i64 o.ck, .int .i64 o.v.kind, .int .i64 o.v.i, .bool o.v.b, .string o.v.s, .slice o.Af o.fs.length o.cf, .int .i64 o.ver, .int .i64 o.time, .int .i64 4]) := by rw [hX11]; exact hou.set_ 15 _
  have HT11 : Hid (Blk X11 (w.heap.size) 30 [.int .i64 t.s.id, .slice t.As t.s.cols.length t.cs, .int .i64 t.s.next, .int .i64 t.sid, .slice t.Af t.fs.length t.cf, .slice t.Ar t.rs.length t.cr]) := by rw [hX11]; exact (HT9.out.fut (w' := X10)).far (p := ⟨w.heap.size + 1, 15, none⟩) ((HT9.out.fut (w' := X10)).ne_ hou (by decide)) _
  have HS11 : Hid (Blk X11 (w1.heap.size) 9 [.string o.col]) := by rw [hX11]; exact (HS9.out.fut (w' := X10)).far (p := ⟨w.heap.size + 1, 15, none⟩) ((HS9.out.fut (w' := X10)).ne_ hou (by decide)) _
  have HA11 : Hid (Blk X11 (w2.heap.size) 59 [.int .i64 c, .slice none 0 0, .slice none 0 0, .int .i64 0, .int .i64 0, .bool false, .string ⟨#[]⟩]) := by rw [hX11]; exact (HA9.out.fut (w' := X10)).far (p := ⟨w.heap.size + 1, 15, none⟩) ((HA9.out.fut (w' := X10)).ne_ hou (by decide)) _
  have HB11 : Hid (Blk X11 (w3.heap.size) 59 [.int .i64 c, .slice none 0 0, .slice none 0 0, .int .i64 0, .int .i64 0, .bool false, .string ⟨#[]⟩]) := by rw [hX11]; exact (HB9.out.fut (w' := X10)).far (p := ⟨w.heap.size + 1, 15, none⟩) ((HB9.out.fut (w' := X10)).ne_ hou (by decide)) _
  have HC11 : Hid (Blk X11 (w4.heap.size) 59 [.int .i64 c, .slice none 0 0, .slice none 0 0, .int .i64 0, .int .i64 0, .bool false, .string ⟨#[]⟩]) := by rw [hX11]; exact (HC10.out.fut (w' := X10)).far (p := ⟨w.heap.size + 1, 15, none⟩) ((HC10.out.fut (w' := X10)).ne_ hou (by decide)) _
  have hzX11 : X11.heap.size = X10.heap.size := by rw [hX11]; simp
  rw [← hX11]
  have SX11 : Step w X11 := ⟨hbX11⟩
  clear hX11 hou hbX11
  have HP11 : Hid (OpIn X11 ⟨9, o.txn, [o.col], (some ⟨w1.heap.size, 0, none⟩), 1, o.rows, o.Ar, o.cr, o.ns, o.An, o.cn, o.col, o.name, o.ck, o.v, o.fs, o.Af, o.cf, o.ver, o.time, 4⟩) := ⟨one_strS HS11.out, by show 1 ≤ _; decide, Nat.le_refl 1, HOP.out.rows.fut, HOP.out.fine, HOP.out.prd.fut, HOP.out.flds.fut, HOP.out.fsm, HOP.out.val, HOP.out.name⟩
  have RD : Hid (∀ (w' : World), Fut X11 w' → Calls Tryz.prog 32 #[.agg #[.int .i64 t.s.id, .slice t.As t.s.cols.length t.cs, .int .i64 t.s.next, .int .i64 t.sid, .slice t.Af t.fs.length t.cf, .slice t.Ar t.rs.length t.cr], .agg #[.int .i64 9, .string o.txn, .slice (some ⟨w1.heap.size, 0, none⟩) 1 1, .slice o.Ar o.rows.length o.cr, .slice o.An o.ns.length o.cn, .string o.col, .string o.name, .int .i64 o.ck, .int .i64 o.v.kind, .int .i64 o.v.i, .bool o.v.b, .string o.v.s, .slice o.Af o.fs.length o.cf, .int .i64 o.ver, .int .i64 o.time, .int .i64 4]] w' fun e w'' => e = .returned (.agg #[.int .i64 c, .slice none 0 0, .slice none 0 0, .int .i64 0, .int .i64 0, .bool false, .string ⟨#[]⟩]) ∧ Step w' w'') := fun w' hq => by
    haveI : Fut v0 w' := Fut.tr (Fut.tr f0 (fut_of (fut w X11))) hq
    have := readAgg (w0 := v0) (w1 := X11) t ⟨9, o.txn, [o.col], (some ⟨w1.heap.size, 0, none⟩), 1, o.rows, o.Ar, o.cr, o.ns, o.An, o.cn, o.col, o.name, o.ck, o.v, o.fs, o.Af, o.cf, o.ver, o.time, 4⟩ w' HIN.out HP11.out (by show (4 : Int) ≠ 0; decide) HFI.out
    rw [show readT t.tb (OpA.op ⟨9, o.txn, [o.col], (some ⟨w1.heap.size, 0, none⟩), 1, o.rows, o.Ar, o.cr, o.ns, o.An, o.cn, o.col, o.name, o.ck, o.v, o.fs, o.Af, o.cf, o.ver, o.time, 4⟩) = _ from sums_err HR.out (a := 4) (by omega) (by omega)] at this
    exact this
  obtain ⟨t0, t1, t2, t3, t4, t5⟩ := At.z6 (HT11.out.fut (w' := X11)).at0
  have lt := (HT11.out.fut (w' := X11)).lt
  obtain ⟨o0, o1, o2, o3, o4, o5, o6, o7, o8, o9, o10, o11, o12, o13, o14, o15⟩ := At.zOp (HO11.out.fut (w' := X11)).at0
  have lo := (HO11.out.fut (w' := X11)).lt
  have fo := (HO11.out.fut (w' := X11)).free
  go_upto_region 13 with (go_at_call 32; (with_reducible refine (RD.out _ inferInstance).mono ?_); rintro e w5 ⟨rfl, hsw5⟩)
  clear t0 t1 t2 t3 t4 t5 lt
  clear o0 o1 o2 o3 o4 o5 o6 o7 o8 o9 o10 o11 o12 o13 o14 o15 lo fo
  obtain ⟨X12, hX12⟩ : ∃ x : World, x = w5.alloc (.cells #[.int .i64 c, .slice none 0 0, .slice none 0 0, .int .i64 0, .int .i64 0, .bool false, .string ⟨#[]⟩] 59) := ⟨_, rfl⟩
  have SX12 : Step w5 X12 := by rw [hX12]; exact Step.of
  have HD12 : Hid (Blk X12 w5.heap.size 59 [.int .i64 c, .slice none 0 0, .slice none 0 0, .int .i64 0, .int .i64 0, .bool false, .string ⟨#[]⟩]) := by rw [hX12]; exact Blk.new w5 _ 59
  rw [← hX12]
  clear hX12
  obtain ⟨a0, a1, a2, a3, a4, a5, a6⟩ := At.z7 (HA11.out.fut (w' := X12)).at0
  have la := (HA11.out.fut (w' := X12)).lt
  obtain ⟨b0, b1, b2, b3, b4, b5, b6⟩ := At.z7 (HB11.out.fut (w' := X12)).at0
  have lb := (HB11.out.fut (w' := X12)).lt
  obtain ⟨c0, c1, c2, c3, c4, c5, c6⟩ := At.z7 (HC11.out.fut (w' := X12)).at0
  have lc := (HC11.out.fut (w' := X12)).lt
  obtain ⟨d0, d1, d2, d3, d4, d5, d6⟩ := At.z7 (HD12.out.fut (w' := X12)).at0
  have ld := (HD12.out.fut (w' := X12)).lt
  have hcb : (c != 0) = true := bne_iff_ne.2 HC0.out
  go_wp2_with fail
  go_ret
  exact ⟨rfl, Step.of⟩
end Go.Proofs.YtnphokhehacfnaaGreatDoor

