/-
  Texts put together: Xk1.
-/
import Derived.Test.YtnphokhehacfnaaGreatDoorTz04
import Derived.Test.YtnphokhehacfnaaGreatDoorTz05
import Derived.Test.YtnphokhehacfnaaGreatDoorTz90
import Derived.Test.YtnphokhehacfnaaGreatDoorTz91
namespace Go.Proofs.YtnphokhehacfnaaGreatDoor
open Go.RowKit

set_option maxRecDepth 100000 in
set_option maxHeartbeats 16000000 in
theorem twice_no {v0 v1 : World} (t : TbA) (o : OpA) (w : World) (hin : TbIn v0 t) (hop : OpIn v1 o) [f0 : Fut v0 w] [f1 : Fut v1 w] (hz : (applyP t.tb o.op).2 ≠ 0) :
    Calls Tryz.prog 6 #[.agg #[.int .i64 t.s.id, .slice t.As t.s.cols.length t.cs, .int .i64 t.s.next, .int .i64 t.sid, .slice t.Af t.fs.length t.cf, .slice t.Ar t.rs.length t.cr], .agg #[.int .i64 o.kind, .string o.txn, .slice o.Ac o.cols.length o.cc, .slice o.Ar o.rows.length o.cr, .slice o.An o.ns.length o.cn, .string o.col, .string o.name, .int .i64 o.ck, .int .i64 o.v.kind, .int .i64 o.v.i, .bool o.v.b, .string o.v.s, .slice o.Af o.fs.length o.cf, .int .i64 o.ver, .int .i64 o.time, .int .i64 o.agg]] w fun e w' => e = .returned (.bool true) ∧ Step w w' := by
  have hlen := hin.rows.hcap; have hlem := hin.rows.hcapm
  have hrl := hop.rows.hcap; have hrm := hop.rows.hcapm
  have HIN := hide hin; have HOP := hide hop
  obtain ⟨u, hu⟩ : ∃ u, (applyP t.tb o.op).1 = u := ⟨_, rfl⟩
  obtain ⟨c, hc⟩ : ∃ c, (applyP t.tb o.op).2 = c := ⟨_, rfl⟩
  have hu0 : applyP t.tb o.op = (u, c) := by rw [← hu, ← hc]
  have HU := hide hu0
  have AP : Hid (∀ (w' : World), Fut w w' → Calls Tryz.prog 13 #[.agg #[.int .i64 t.s.id, .slice t.As t.s.cols.length t.cs, .int .i64 t.s.next, .int .i64 t.sid, .slice t.Af t.fs.length t.cf, .slice t.Ar t.rs.length t.cr], .agg #[.int .i64 o.kind, .string o.txn, .slice o.Ac o.cols.length o.cc, .slice o.Ar o.rows.length o.cr, .slice o.An o.ns.length o.cn, .string o.col, .string o.name, .int .i64 o.ck, .int .i64 o.v.kind, .int .i64 o.v.i, .bool o.v.b, .string o.v.s, .slice o.Af o.fs.length o.cf, .int .i64 o.ver, .int .i64 o.time, .int .i64 o.agg]] w' (ApplyR w' (u, c))) := fun w' hq => by
    haveI := Fut.tr f0 hq; haveI := Fut.tr f1 hq
    have := apply_any25 (w0 := v0) (w1 := v1) t o w' HIN.out HOP.out
    rw [hu0] at this
    exact this
  have HC := hide hc
  clear hu hc hu0 hin hop
  obtain ⟨W, hW⟩ : ∃ x : World, x = (w.alloc (.cells #[.int .i64 t.s.id, .slice t.As t.s.cols.length t.cs, .int .i64 t.s.next, .int .i64 t.sid, .slice t.Af t.fs.length t.cf, .slice t.Ar t.rs.length t.cr] 30)).alloc (.cells #[.int .i64 o.kind, .string o.txn, .slice o.Ac o.cols.length o.cc, .slice o.Ar o.rows.length o.cr, .slice o.An o.ns.length o.cn, .string o.col, .string o.name, .int .i64 o.ck, .int .i64 o.v.kind, .int .i64 o.v.i, .bool o.v.b, .string o.v.s, .slice o.Af o.fs.length o.cf, .int .i64 o.ver, .int .i64 o.time, .int .i64 o.agg] 38) := ⟨_, rfl⟩
  have SW : Step w W := by rw [hW]; exact Step.of
  have HT : Hid (Blk W w.heap.size 30 [.int .i64 t.s.id, .slice t.As t.s.cols.length t.cs, .int .i64 t.s.next, .int .i64 t.sid, .slice t.Af t.fs.length t.cf, .slice t.Ar t.rs.length t.cr]) := by rw [hW]; exact (Blk.new w _ 30).alloc _
  have HO : Hid (Blk W (w.heap.size + 1) 38 [.int .i64 o.kind, .string o.txn, .slice o.Ac o.cols.length o.cc, .slice o.Ar o.rows.length o.cr, .slice o.An o.ns.length o.cn, .string o.col, .string o.name, .int .i64 o.ck, .int .i64 o.v.kind, .int .i64 o.v.i, .bool o.v.b, .string o.v.s, .slice o.Af o.fs.length o.cf, .int .i64 o.ver, .int .i64 o.time, .int .i64 o.agg]) := by rw [hW]; exact Blk.new_at (by simp) _ 38
  obtain ⟨t0, t1, t2, t3, t4, t5⟩ := At.z6 (HT.out.fut (w' := W)).at0
  have lt := (HT.out.fut (w' := W)).lt
  obtain ⟨o0, o1, o2, o3, o4, o5, o6, o7, o8, o9, o10, o11, o12, o13, o14, o15⟩ := At.zOp (HO.out.fut (w' := W)).at0
  have lo := (HO.out.fut (w' := W)).lt
  go_enter Tryz.func6, Tryz.ntmps6
  go_upto_region 1 with fail
  rw [← hW]
  clear hW
  go_upto_region 4 with (first | (go_at_call 31; (with_reducible refine (awake25_any _).mono ?_); rintro e w1 ⟨rfl, hs1⟩; clear t0 t1 t2 t3 t4 t5 lt; clear o0 o1 o2 o3 o4 o5 o6 o7 o8 o9 o10 o11 o12 o13 o14 o15 lo; obtain ⟨t0, t1, t2, t3, t4, t5⟩ := At.z6 (HT.out.fut (w' := w1)).at0; have lt := (HT.out.fut (w' := w1)).lt; obtain ⟨o0, o1, o2, o3, o4, o5, o6, o7, o8, o9, o10, o11, o12, o13, o14, o15⟩ := At.zOp (HO.out.fut (w' := w1)).at0; have lo := (HO.out.fut (w' := w1)).lt) | (go_at_call 13; (with_reducible refine (AP.out _ inferInstance).mono ?_); rintro e w2 ⟨tA, rfl, hta, hoa, hs2⟩; have HTA := hide hta; have HOA := hide hoa; clear hta hoa))
  obtain ⟨X3, hX3⟩ : ∃ x : World, x = w2.alloc (.cells #[.int .i64 tA.s.id, .slice tA.As tA.s.cols.length tA.cs, .int .i64 tA.s.next, .int .i64 tA.sid, .slice tA.Af tA.fs.length tA.cf, .slice tA.Ar tA.rs.length tA.cr] 30) := ⟨_, rfl⟩
  have SX3 : Step w2 X3 := by rw [hX3]; exact Step.of
  have HA3 : Hid (Blk X3 w2.heap.size 30 [.int .i64 tA.s.id, .slice tA.As tA.s.cols.length tA.cs, .int .i64 tA.s.next, .int .i64 tA.sid, .slice tA.Af tA.fs.length tA.cf, .slice tA.Ar tA.rs.length tA.cr]) := by rw [hX3]; exact Blk.new w2 _ 30
  have HO3 : Hid (TbOwnR X3 _ tA) := HOA.out.fut
  rw [← hX3]
  clear hX3 AP
  clear t0 t1 t2 t3 t4 t5 lt
  clear o0 o1 o2 o3 o4 o5 o6 o7 o8 o9 o10 o11 o12 o13 o14 o15 lo
  obtain ⟨t0, t1, t2, t3, t4, t5⟩ := At.z6 (HT.out.fut (w' := X3)).at0
  have lt := (HT.out.fut (w' := X3)).lt
  obtain ⟨a0, a1, a2, a3, a4, a5⟩ := At.z6 (HA3.out.fut (w' := X3)).at0
  have la := (HA3.out.fut (w' := X3)).lt
  obtain ⟨o0, o1, o2, o3, o4, o5, o6, o7, o8, o9, o10, o11, o12, o13, o14, o15⟩ := At.zOp (HO.out.fut (w' := X3)).at0
  have lo := (HO.out.fut (w' := X3)).lt
  have hv0 : Fut v0 X3 := Fut.tr f0 (Fut.mk' (fut w X3))
  have hw1 : Fut v1 X3 := Fut.tr f1 (Fut.mk' (fut w X3))
  have hc0 : c ≠ 0 := by rw [← HC.out]; exact hz
  have he : tA.tb = t.tb := HTA.out.trans (apply_back HU.out hc0)
  have HTI : Hid (TbIn X3 tA) := HO3.out.tin (HIN.out.fine.of_tb he)
  have HE := hide he
  clear he
  have PC : Hid (∀ (w' : World), Fut X3 w' → Calls Tryz.prog 30 #[.agg #[.int .i64 tA.s.id, .slice tA.As tA.s.cols.length tA.cs, .int .i64 tA.s.next, .int .i64 tA.sid, .slice tA.Af tA.fs.length tA.cf, .slice tA.Ar tA.rs.length tA.cr], .agg #[.int .i64 t.s.id, .slice t.As t.s.cols.length t.cs, .int .i64 t.s.next, .int .i64 t.sid, .slice t.Af t.fs.length t.cf, .slice t.Ar t.rs.length t.cr]] w' fun e w'' => e = .returned (.bool true) ∧ Step w' w'') := fun w' hq => by
    haveI : Fut v0 w' := Fut.tr hv0 hq
    exact rplain_eq tA t w' HTI.out HIN.out HE.out
  have hcb : (c != 0) = true := bne_iff_ne.2 hc0
  go_wp2_with (go_at_call 30; (with_reducible refine (PC.out _ inferInstance).mono ?_); rintro e w3 ⟨rfl, hs3⟩)
  go_ret
  exact ⟨rfl, Step.of⟩
set_option maxRecDepth 100000 in
set_option maxHeartbeats 16000000 in
theorem twice_kr {v0 v1 : World} (t : TbA) (o : OpA) (w : World) (hin : TbIn v0 t) (hop : OpIn v1 o) [f0 : Fut v0 w] [f1 : Fut v1 w] (hz : (applyP t.tb o.op).2 = 0) (hkk : o.kind ≠ 1 ∧ o.kind ≠ 2) :
    Calls Tryz.prog 6 #[.agg #[.int .i64 t.s.id, .slice t.As t.s.cols.length t.cs, .int .i64 t.s.next, .int .i64 t.sid, .slice t.Af t.fs.length t.cf, .slice t.Ar t.rs.length t.cr], .agg #[.int .i64 o.kind, .string o.txn, .slice o.Ac o.cols.length o.cc, .slice o.Ar o.rows.length o.cr, .slice o.An o.ns.length o.cn, .string o.col, .string o.name, .int .i64 o.ck, .int .i64 o.v.kind, .int .i64 o.v.i, .bool o.v.b, .string o.v.s, .slice o.Af o.fs.length o.cf, .int .i64 o.ver, .int .i64 o.time, .int .i64 o.agg]] w fun e w' => e = .returned (.bool true) ∧ Step w w' := by
  have hlen := hin.rows.hcap; have hlem := hin.rows.hcapm
  have hrl := hop.rows.hcap; have hrm := hop.rows.hcapm
  have HIN := hide hin; have HOP := hide hop
  obtain ⟨u, hu⟩ : ∃ u, (applyP t.tb o.op).1 = u := ⟨_, rfl⟩
  obtain ⟨c, hc⟩ : ∃ c, (applyP t.tb o.op).2 = c := ⟨_, rfl⟩
  have hu0 : applyP t.tb o.op = (u, c) := by rw [← hu, ← hc]
  have HU := hide hu0
  have AP : Hid (∀ (w' : World), Fut w w' → Calls Tryz.prog 13 #[.agg #[.int .i64 t.s.id, .slice t.As t.s.cols.length t.cs, .int .i64 t.s.next, .int .i64 t.sid, .slice t.Af t.fs.length t.cf, .slice t.Ar t.rs.length t.cr], .agg #[.int .i64 o.kind, .string o.txn, .slice o.Ac o.cols.length o.cc, .slice o.Ar o.rows.length o.cr, .slice o.An o.ns.length o.cn, .string o.col, .string o.name, .int .i64 o.ck, .int .i64 o.v.kind, .int .i64 o.v.i, .bool o.v.b, .string o.v.s, .slice o.Af o.fs.length o.cf, .int .i64 o.ver, .int .i64 o.time, .int .i64 o.agg]] w' (ApplyR w' (u, c))) := fun w' hq => by
    haveI := Fut.tr f0 hq; haveI := Fut.tr f1 hq
    have := apply_any25 (w0 := v0) (w1 := v1) t o w' HIN.out HOP.out
    rw [hu0] at this
    exact this
  have HC := hide hc
  clear hu hc hu0 hin hop
  obtain ⟨W, hW⟩ : ∃ x : World, x = (w.alloc (.cells #[.int .i64 t.s.id, .slice t.As t.s.cols.length t.cs, .int .i64 t.s.next, .int .i64 t.sid, .slice t.Af t.fs.length t.cf, .slice t.Ar t.rs.length t.cr] 30)).alloc (.cells #[.int .i64 o.kind, .string o.txn, .slice o.Ac o.cols.length o.cc, .slice o.Ar o.rows.length o.cr, .slice o.An o.ns.length o.cn, .string o.col, .string o.name, .int .i64 o.ck, .int .i64 o.v.kind, .int .i64 o.v.i, .bool o.v.b, .string o.v.s, .slice o.Af o.fs.length o.cf, .int .i64 o.ver, .int .i64 o.time, .int .i64 o.agg] 38) := ⟨_, rfl⟩
  have SW : Step w W := by rw [hW]; exact Step.of
  have HT : Hid (Blk W w.heap.size 30 [.int .i64 t.s.id, .slice t.As t.s.cols.length t.cs, .int .i64 t.s.next, .int .i64 t.sid, .slice t.Af t.fs.length t.cf, .slice t.Ar t.rs.length t.cr]) := by rw [hW]; exact (Blk.new w _ 30).alloc _
  have HO : Hid (Blk W (w.heap.size + 1) 38 [.int .i64 o.kind, .string o.txn, .slice o.Ac o.cols.length o.cc, .slice o.Ar o.rows.length o.cr, .slice o.An o.ns.length o.cn, .string o.col, .string o.name, .int .i64 o.ck, .int .i64 o.v.kind, .int .i64 o.v.i, .bool o.v.b, .string o.v.s, .slice o.Af o.fs.length o.cf, .int .i64 o.ver, .int .i64 o.time, .int .i64 o.agg]) := by rw [hW]; exact Blk.new_at (by simp) _ 38
  obtain ⟨t0, t1, t2, t3, t4, t5⟩ := At.z6 (HT.out.fut (w' := W)).at0
  have lt := (HT.out.fut (w' := W)).lt
  obtain ⟨o0, o1, o2, o3, o4, o5, o6, o7, o8, o9, o10, o11, o12, o13, o14, o15⟩ := At.zOp (HO.out.fut (w' := W)).at0
  have lo := (HO.out.fut (w' := W)).lt
  go_enter Tryz.func6, Tryz.ntmps6
  go_upto_region 1 with fail
  rw [← hW]
  clear hW
  go_upto_region 4 with (first | (go_at_call 31; (with_reducible refine (awake25_any _).mono ?_); rintro e w1 ⟨rfl, hs1⟩; clear t0 t1 t2 t3 t4 t5 lt; clear o0 o1 o2 o3 o4 o5 o6 o7 o8 o9 o10 o11 o12 o13 o14 o15 lo; obtain ⟨t0, t1, t2, t3, t4, t5⟩ := At.z6 (HT.out.fut (w' := w1)).at0; have lt := (HT.out.fut (w' := w1)).lt; obtain ⟨o0, o1, o2, o3, o4, o5, o6, o7, o8, o9, o10, o11, o12, o13, o14, o15⟩ := At.zOp (HO.out.fut (w' := w1)).at0; have lo := (HO.out.fut (w' := w1)).lt) | (go_at_call 13; (with_reducible refine (AP.out _ inferInstance).mono ?_); rintro e w2 ⟨tA, rfl, hta, hoa, hs2⟩; have HTA := hide hta; have HOA := hide hoa; clear hta hoa))
  obtain ⟨X3, hX3⟩ : ∃ x : World, x = w2.alloc (.cells #[.int .i64 tA.s.id, .slice tA.As tA.s.cols.length tA.cs, .int .i64 tA.s.next, .int .i64 tA.sid, .slice tA.Af tA.fs.length tA.cf, .slice tA.Ar tA.rs.length tA.cr] 30) := ⟨_, rfl⟩
  have SX3 : Step w2 X3 := by rw [hX3]; exact Step.of
  have HA3 : Hid (Blk X3 w2.heap.size 30 [.int .i64 tA.s.id, .slice tA.As tA.s.cols.length tA.cs, .int .i64 tA.s.next, .int .i64 tA.sid, .slice tA.Af tA.fs.length tA.cf, .slice tA.Ar tA.rs.length tA.cr]) := by rw [hX3]; exact Blk.new w2 _ 30
  have HO3 : Hid (TbOwnR X3 _ tA) := HOA.out.fut
  rw [← hX3]
  clear hX3 AP
  clear t0 t1 t2 t3 t4 t5 lt
  clear o0 o1 o2 o3 o4 o5 o6 o7 o8 o9 o10 o11 o12 o13 o14 o15 lo
  obtain ⟨t0, t1, t2, t3, t4, t5⟩ := At.z6 (HT.out.fut (w' := X3)).at0
  have lt := (HT.out.fut (w' := X3)).lt
  obtain ⟨a0, a1, a2, a3, a4, a5⟩ := At.z6 (HA3.out.fut (w' := X3)).at0
  have la := (HA3.out.fut (w' := X3)).lt
  obtain ⟨o0, o1, o2, o3, o4, o5, o6, o7, o8, o9, o10, o11, o12, o13, o14, o15⟩ := At.zOp (HO.out.fut (w' := X3)).at0
  have lo := (HO.out.fut (w' := X3)).lt
  have hv0 : Fut v0 X3 := Fut.tr f0 (Fut.mk' (fut w X3))
  have hw1 : Fut v1 X3 := Fut.tr f1 (Fut.mk' (fut w X3))
  obtain rfl : c = 0 := by rw [← HC.out]; exact hz
  obtain ⟨hmay, hk0, hk8, _⟩ := apply_inv HU.out
  have hk0 : 0 ≤ o.kind := hk0
  have hk8 : o.kind ≤ 8 := hk8
  have hcs : o.kind = 0 ∨ o.kind = 3 ∨ o.kind = 8 ∨ (4 ≤ o.kind ∧ o.kind ≤ 7) := by omega
  rcases hcs with hk | hk | hk | hk
  · have hl := twice_add HU.out hk
    have hw : IntKind.i64.wrap ((t.rs.length : Int) + (o.rows.length : Int)) = (tA.rs.length : Int) := by
      have h1 : u.rows.length = tA.rs.length := by rw [← HTA.out]; simp [TbA.tb]
      have h2 : t.tb.rows.length = t.rs.length := by simp [TbA.tb]
      have h3 : o.op.rows.length = o.rows.length := by simp [OpA.op]
      rw [IntKind.wrap_i64]
      omega
    rw [hk] at o0
    go_wp2_with fail
    go_ret
    exact ⟨rfl, Step.of⟩
  · have hl := twice_upd HU.out hk
    have hw : ((tA.rs.length : Int) == (t.rs.length : Int)) = true := by
      have h1 : u.rows.length = tA.rs.length := by rw [← HTA.out]; simp [TbA.tb]
      have h2 : t.tb.rows.length = t.rs.length := by simp [TbA.tb]
      rw [beq_iff_eq]
      omega
    rw [hk] at o0
    go_wp2_with fail
    go_ret
    exact ⟨rfl, Step.of⟩
  · obtain ⟨he, hss⟩ := twice_comp HU.out hk
    have HTI : Hid (TbIn X3 tA) := tb_in HO3.out (by rw [HTA.out]; exact hss.may1)
    have SM : Hid (∀ (w' : World), Fut X3 w' → Calls Tryz.prog 21 #[.agg #[.int .i64 tA.s.id, .slice tA.As tA.s.cols.length tA.cs, .int .i64 tA.s.next, .int .i64 tA.sid, .slice tA.Af tA.fs.length tA.cf, .slice tA.Ar tA.rs.length tA.cr], .agg #[.int .i64 t.s.id, .slice t.As t.s.cols.length t.cs, .int .i64 t.s.next, .int .i64 t.sid, .slice t.Af t.fs.length t.cf, .slice t.Ar t.rs.length t.cr]] w' fun e w'' => e = .returned (.bool true) ∧ Step w' w'') := fun w' hq => by
      haveI : Fut v0 w' := Fut.tr hv0 hq
      exact (msame_any tA t w' HTI.out HIN.out).mono fun e w'' h => ⟨h.1.yes (by rw [HTA.out]; exact hss), h.2⟩
    rw [hk] at o0
    go_wp2_with (go_at_call 21; (with_reducible refine (SM.out _ inferInstance).mono ?_); rintro e w4 ⟨rfl, hs4⟩)
    go_ret
    exact ⟨rfl, Step.of⟩
  · obtain ⟨hl, hm2⟩ := twice_rest HU.out hk.1
    have HTI : Hid (TbIn X3 tA) := tb_in HO3.out (by rw [HTA.out]; exact hm2)
    have MC : Hid (∀ (w' : World), Fut X3 w' → Calls Tryz.prog 19 #[.agg #[.int .i64 tA.s.id, .slice tA.As tA.s.cols.length tA.cs, .int .i64 tA.s.next, .int .i64 tA.sid, .slice tA.Af tA.fs.length tA.cf, .slice tA.Ar tA.rs.length tA.cr]] w' fun e w'' => e = .returned (.bool true) ∧ Step w' w'') := fun w' hq => by
      have := mmay_any tA w' HTI.out
      rw [HTA.out, hm2] at this
      exact this
    have hw : ((tA.rs.length : Int) == (t.rs.length : Int)) = true := by
      have h1 : u.rows.length = tA.rs.length := by rw [← HTA.out]; simp [TbA.tb]
      have h2 : t.tb.rows.length = t.rs.length := by simp [TbA.tb]
      rw [beq_iff_eq]
      omega
    have n0 : (o.kind == 0) = false := by rw [beq_eq_false_iff_ne]; omega
    have n1 : (o.kind == 1) = false := by rw [beq_eq_false_iff_ne]; omega
    have n2 : (o.kind == 2) = false := by rw [beq_eq_false_iff_ne]; omega
    have n3 : (o.kind == 3) = false := by rw [beq_eq_false_iff_ne]; omega
    have n8 : (o.kind == 8) = false := by rw [beq_eq_false_iff_ne]; omega
    go_wp2_with (go_at_call 19; (with_reducible refine (MC.out _ inferInstance).mono ?_); rintro e w4 ⟨rfl, hs4⟩)
    go_ret
    exact ⟨rfl, Step.of⟩
end Go.Proofs.YtnphokhehacfnaaGreatDoor

