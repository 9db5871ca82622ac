/-
  Texts put together: Xk3.
-/
import Derived.Test.YtnphokhehacfnaaGreatDoorTz04
import Derived.Test.YtnphokhehacfnaaGreatDoorTz05
import Derived.Test.YtnphokhehacfnaaGreatDoorTz90
import Derived.Test.YtnphokhehacfnaaGreatDoorTz91
namespace Go.Proofs.YtnphokhehacfnaaGreatDoor
open Go.RowKit

set_option maxRecDepth 100000 in
set_option maxHeartbeats 16000000 in
theorem twice_k2 {v0 v1 : World} (t : TbA) (o : OpA) (w : World) (hin : TbIn v0 t) (hop : OpIn v1 o) [f0 : Fut v0 w] [f1 : Fut v1 w] (hz : (applyP t.tb o.op).2 = 0) (hk : o.kind = 2) :
    Calls Tryz.prog 6 #[.agg #[.int .i64 t.s.id, .slice t.As t.s.cols.length t.cs, .int .i64 t.s.next, .int .i64 t.sid, .slice t.Af t.fs.length t.cf, .slice t.Ar t.rs.length t.cr], .agg #[.int .i64 o.kind, .string o.txn, .slice o.Ac o.cols.length o.cc, .slice o.Ar o.rows.length o.cr, .slice o.An o.ns.length o.cn, .string o.col, .string o.name, .int .i64 o.ck, .int .i64 o.v.kind, .int .i64 o.v.i, .bool o.v.b, .string o.v.s, .slice o.Af o.fs.length o.cf, .int .i64 o.ver, .int .i64 o.time, .int .i64 o.agg]] w fun e w' => e = .returned (.bool true) ∧ Step w w' := by
  have HKK := hide hk
  clear hk
  have hlen := hin.rows.hcap; have hlem := hin.rows.hcapm
  have hrl := hop.rows.hcap; have hrm := hop.rows.hcapm
  have HIN := hide hin; have HOP := hide hop
  obtain ⟨u, hu⟩ : ∃ u, (applyP t.tb o.op).1 = u := ⟨_, rfl⟩
  obtain ⟨c, hc⟩ : ∃ c, (applyP t.tb o.op).2 = c := ⟨_, rfl⟩
  have hu0 : applyP t.tb o.op = (u, c) := by rw [← hu, ← hc]
  have HU := hide hu0
  have AP : Hid (∀ (w' : World), Fut w w' → Calls Tryz.prog 13 #[.agg #[.int .i64 t.s.id, .slice t.As t.s.cols.length t.cs, .int .i64 t.s.next, .int .i64 t.sid, .slice t.Af t.fs.length t.cf, .slice t.Ar t.rs.length t.cr], .agg #[.int .i64 o.kind, .string o.txn, .slice o.Ac o.cols.length o.cc, .slice o.Ar o.rows.length o.cr, .slice o.An o.ns.length o.cn, .string o.col, .string o.name, .int .i64 o.ck, .int .i64 o.v.kind, .int .i64 o.v.i, .bool o.v.b, .string o.v.s, .slice o.Af o.fs.length o.cf, .int .i64 o.ver, .int .i64 o.time, .int .i64 o.agg]] w' (ApplyR w' (u, c))) := fun w' hq => by
    haveI := Fut.tr f0 hq; haveI := Fut.tr f1 hq
    have := apply_any25 (w0 := v0) (w1 := v1) t o w' HIN.out HOP.out
    rw [hu0] at this
    exact this
  have HC := hide hc
  clear hu hc hu0 hin hop
  obtain ⟨W, hW⟩ : ∃ x : World, x = (w.alloc (.cells #[.int .i64 t.s.id, .slice t.As t.s.cols.length t.cs, .int .i64 t.s.next, .int .i64 t.sid, .slice t.Af t.fs.length t.cf, .slice t.Ar t.rs.length t.cr] 30)).alloc (.cells #[.int .i64 o.kind, .string o.txn, .slice o.Ac o.cols.length o.cc, .slice o.Ar o.rows.length o.cr, .slice o.An o.ns.length o.cn, .string o.col, .string o.name, .int .i64 o.ck, .int .i64 o.v.kind, .int .i64 o.v.i, .bool o.v.b, .string o.v.s, .slice o.Af o.fs.length o.cf, .int .i64 o.ver, .int .i64 o.time, .int .i64 o.agg] 38) := ⟨_, rfl⟩
  have SW : Step w W := by rw [hW]; exact Step.of
  have HT : Hid (Blk W w.heap.size 30 [.int .i64 t.s.id, .slice t.As t.s.cols.length t.cs, .int .i64 t.s.next, .int .i64 t.sid, .slice t.Af t.fs.length t.cf, .slice t.Ar t.rs.length t.cr]) := by rw [hW]; exact (Blk.new w _ 30).alloc _
  have HO : Hid (Blk W (w.heap.size + 1) 38 [.int .i64 o.kind, .string o.txn, .slice o.Ac o.cols.length o.cc, .slice o.Ar o.rows.length o.cr, .slice o.An o.ns.length o.cn, .string o.col, .string o.name, .int .i64 o.ck, .int .i64 o.v.kind, .int .i64 o.v.i, .bool o.v.b, .string o.v.s, .slice o.Af o.fs.length o.cf, .int .i64 o.ver, .int .i64 o.time, .int .i64 o.agg]) := by rw [hW]; exact Blk.new_at (by simp) _ 38
  obtain ⟨t0, t1, t2, t3, t4, t5⟩ := At.z6 (HT.out.fut (w' := W)).at0
  have lt := (HT.out.fut (w' := W)).lt
  obtain ⟨o0, o1, o2, o3, o4, o5, o6, o7, o8, o9, o10, o11, o12, o13, o14, o15⟩ := At.zOp (HO.out.fut (w' := W)).at0
  have lo := (HO.out.fut (w' := W)).lt
  go_enter Tryz.func6, Tryz.ntmps6
  go_upto_region 1 with fail
  rw [← hW]
  clear hW
  go_upto_region 4 with (first | (go_at_call 31; (with_reducible refine (awake25_any _).mono ?_); rintro e w1 ⟨rfl, hs1⟩; clear t0 t1 t2 t3 t4 t5 lt; clear o0 o1 o2 o3 o4 o5 o6 o7 o8 o9 o10 o11 o12 o13 o14 o15 lo; obtain ⟨t0, t1, t2, t3, t4, t5⟩ := At.z6 (HT.out.fut (w' := w1)).at0; have lt := (HT.out.fut (w' := w1)).lt; obtain ⟨o0, o1, o2, o3, o4, o5, o6, o7, o8, o9, o10, o11, o12, o13, o14, o15⟩ := At.zOp (HO.out.fut (w' := w1)).at0; have lo := (HO.out.fut (w' := w1)).lt) | (go_at_call 13; (with_reducible refine (AP.out _ inferInstance).mono ?_); rintro e w2 ⟨tA, rfl, hta, hoa, hs2⟩; have HTA := hide hta; have HOA := hide hoa; clear hta hoa))
  obtain ⟨X3, hX3⟩ : ∃ x : World, x = w2.alloc (.cells #[.int .i64 tA.s.id, .slice tA.As tA.s.cols.length tA.cs, .int .i64 tA.s.next, .int .i64 tA.sid, .slice tA.Af tA.fs.length tA.cf, .slice tA.Ar tA.rs.length tA.cr] 30) := ⟨_, rfl⟩
  have SX3 : Step w2 X3 := by rw [hX3]; exact Step.of
  have HA3 : Hid (Blk X3 w2.heap.size 30 [.int .i64 tA.s.id, .slice tA.As tA.s.cols.length tA.cs, .int .i64 tA.s.next, .int .i64 tA.sid, .slice tA.Af tA.fs.length tA.cf, .slice tA.Ar tA.rs.length tA.cr]) := by rw [hX3]; exact Blk.new w2 _ 30
  have HO3 : Hid (TbOwnR X3 _ tA) := HOA.out.fut
  rw [← hX3]
  clear hX3 AP
  clear t0 t1 t2 t3 t4 t5 lt
  clear o0 o1 o2 o3 o4 o5 o6 o7 o8 o9 o10 o11 o12 o13 o14 o15 lo
  obtain ⟨t0, t1, t2, t3, t4, t5⟩ := At.z6 (HT.out.fut (w' := X3)).at0
  have lt := (HT.out.fut (w' := X3)).lt
  obtain ⟨a0, a1, a2, a3, a4, a5⟩ := At.z6 (HA3.out.fut (w' := X3)).at0
  have la := (HA3.out.fut (w' := X3)).lt
  obtain ⟨o0, o1, o2, o3, o4, o5, o6, o7, o8, o9, o10, o11, o12, o13, o14, o15⟩ := At.zOp (HO.out.fut (w' := X3)).at0
  have lo := (HO.out.fut (w' := X3)).lt
  have hv0 : Fut v0 X3 := Fut.tr f0 (Fut.mk' (fut w X3))
  have hw1 : Fut v1 X3 := Fut.tr f1 (Fut.mk' (fut w X3))
  obtain rfl : c = 0 := by rw [← HC.out]; exact hz
  obtain ⟨hmay, hk0, hk8, _⟩ := apply_inv HU.out
  have hk0 : 0 ≤ o.kind := hk0
  have hk8 : o.kind ≤ 8 := hk8
  have hk := HKK.out
  obtain ⟨hu2, ht2, hss, hle⟩ := twice_take HU.out (by show o.kind = 1 ∨ o.kind = 2; omega)
  have hle2 : (tA.rs.length : Int) ≤ (t.rs.length : Int) := by
    have h1 : u.rows.length = tA.rs.length := by rw [← HTA.out]; simp [TbA.tb]
    have h2 : t.tb.rows.length = t.rs.length := by simp [TbA.tb]
    omega
  have HSS := hide hss
  have HTI : Hid (TbIn X3 tA) := tb_in HO3.out (by rw [HTA.out]; exact HSS.out.may1)
  have AP2 : Hid (∀ (w' : World), Fut X3 w' → Calls Tryz.prog 13 #[.agg #[.int .i64 tA.s.id, .slice tA.As tA.s.cols.length tA.cs, .int .i64 tA.s.next, .int .i64 tA.sid, .slice tA.Af tA.fs.length tA.cf, .slice tA.Ar tA.rs.length tA.cr], .agg #[.int .i64 2, .string o.txn, .slice o.Ac o.cols.length o.cc, .slice o.Ar o.rows.length o.cr, .slice o.An o.ns.length o.cn, .string o.col, .string o.name, .int .i64 o.ck, .int .i64 o.v.kind, .int .i64 o.v.i, .bool o.v.b, .string o.v.s, .slice o.Af o.fs.length o.cf, .int .i64 o.ver, .int .i64 o.time, .int .i64 o.agg]] w' (ApplyR w' (u, 0))) := fun w' hq => by
    haveI : Fut v1 w' := Fut.tr hw1 hq
    have := apply_any25 (w0 := X3) (w1 := v1) tA o w' HTI.out HOP.out
    rw [HTA.out, hu2, hk] at this
    exact this
  have AP3 : Hid (∀ (w' : World), Fut X3 w' → Calls Tryz.prog 13 #[.agg #[.int .i64 t.s.id, .slice t.As t.s.cols.length t.cs, .int .i64 t.s.next, .int .i64 t.sid, .slice t.Af t.fs.length t.cf, .slice t.Ar t.rs.length t.cr], .agg #[.int .i64 1, .string o.txn, .slice o.Ac o.cols.length o.cc, .slice o.Ar o.rows.length o.cr, .slice o.An o.ns.length o.cn, .string o.col, .string o.name, .int .i64 o.ck, .int .i64 o.v.kind, .int .i64 o.v.i, .bool o.v.b, .string o.v.s, .slice o.Af o.fs.length o.cf, .int .i64 o.ver, .int .i64 o.time, .int .i64 o.agg]] w' (ApplyR w' (u, 0))) := fun w' hq => by
    haveI : Fut v0 w' := Fut.tr hv0 hq
    haveI : Fut v1 w' := Fut.tr hw1 hq
    have := apply_any25 (w0 := v0) (w1 := v1) t { o with kind := 3 - o.kind } w' HIN.out ⟨HOP.out.cols, HOP.out.clen, HOP.out.ccap, HOP.out.rows, HOP.out.fine, HOP.out.prd, HOP.out.flds, HOP.out.fsm, HOP.out.val, HOP.out.name⟩
    rw [show OpA.op { o with kind := 3 - o.kind } = turned o.op from rfl, ht2, show (3 : Int) - o.kind = 1 by omega] at this
    exact this
  clear hu2 ht2 hle hss
  rw [hk] at o0
  go_upto_region 10 with (go_at_call 13; (with_reducible refine (AP2.out _ inferInstance).mono ?_); rintro e w5 ⟨tB, rfl, htb, hob, hs5⟩; have HTB := hide htb; have HOB := hide hob; clear htb hob)
  obtain ⟨X5, hX5⟩ : ∃ x : World, x = w5.alloc (.cells #[.int .i64 tB.s.id, .slice tB.As tB.s.cols.length tB.cs, .int .i64 tB.s.next, .int .i64 tB.sid, .slice tB.Af tB.fs.length tB.cf, .slice tB.Ar tB.rs.length tB.cr] 30) := ⟨_, rfl⟩
  have SX5 : Step w5 X5 := by rw [hX5]; exact Step.of
  have HB5 : Hid (Blk X5 w5.heap.size 30 [.int .i64 tB.s.id, .slice tB.As tB.s.cols.length tB.cs, .int .i64 tB.s.next, .int .i64 tB.sid, .slice tB.Af tB.fs.length tB.cf, .slice tB.Ar tB.rs.length tB.cr]) := by rw [hX5]; exact Blk.new w5 _ 30
  have HO5 : Hid (TbOwnR X5 _ tB) := HOB.out.fut
  rw [← hX5]
  clear t0 t1 t2 t3 t4 t5 lt
  clear o0 o1 o2 o3 o4 o5 o6 o7 o8 o9 o10 o11 o12 o13 o14 o15 lo
  clear a0 a1 a2 a3 a4 a5 la
  obtain ⟨o0, o1, o2, o3, o4, o5, o6, o7, o8, o9, o10, o11, o12, o13, o14, o15⟩ := At.zOp (HO.out.fut (w' := X5)).at0
  have lo := (HO.out.fut (w' := X5)).lt
  clear hX5
  rw [hk] at o0
  go_upto_region 12 with fail
  obtain ⟨X6, hX6⟩ : ∃ x : World, x = X5.alloc (.cells #[.int .i64 1, .string o.txn, .slice o.Ac o.cols.length o.cc, .slice o.Ar o.rows.length o.cr, .slice o.An o.ns.length o.cn, .string o.col, .string o.name, .int .i64 o.ck, .int .i64 o.v.kind, .int .i64 o.v.i, .bool o.v.b, .string o.v.s, .slice o.Af o.fs.length o.cf, .int .i64 o.ver, .int .i64 o.time, .int .i64 o.agg] 38) := ⟨_, rfl⟩
  have SX6 : Step X5 X6 := by rw [hX6]; exact Step.of
  have HB6 : Hid (Blk X6 X5.heap.size 38 [.int .i64 1, .string o.txn, .slice o.Ac o.cols.length o.cc, .slice o.Ar o.rows.length o.cr, .slice o.An o.ns.length o.cn, .string o.col, .string o.name, .int .i64 o.ck, .int .i64 o.v.kind, .int .i64 o.v.i, .bool o.v.b, .string o.v.s, .slice o.Af o.fs.length o.cf, .int .i64 o.ver, .int .i64 o.time, .int .i64 o.agg]) := by rw [hX6]; exact Blk.new X5 _ 38
  rw [← hX6]
  clear o0 o1 o2 o3 o4 o5 o6 o7 o8 o9 o10 o11 o12 o13 o14 o15 lo
  clear hX6
  obtain ⟨t0, t1, t2, t3, t4, t5⟩ := At.z6 (HT.out.fut (w' := X6)).at0
  have lt := (HT.out.fut (w' := X6)).lt
  obtain ⟨o0, o1, o2, o3, o4, o5, o6, o7, o8, o9, o10, o11, o12, o13, o14, o15⟩ := At.zOp (HB6.out.fut (w' := X6)).at0
  have lo := (HB6.out.fut (w' := X6)).lt
  as_aux_lemma =>
    go_upto_region 13 with (go_at_call 13; (with_reducible refine (AP3.out _ inferInstance).mono ?_); rintro e w7 ⟨tC, rfl, htc, hoc, hs7⟩; have HTC := hide htc; have HOC := hide hoc; clear htc hoc)
    obtain ⟨X7, hX7⟩ : ∃ x : World, x = w7.alloc (.cells #[.int .i64 tC.s.id, .slice tC.As tC.s.cols.length tC.cs, .int .i64 tC.s.next, .int .i64 tC.sid, .slice tC.Af tC.fs.length tC.cf, .slice tC.Ar tC.rs.length tC.cr] 30) := ⟨_, rfl⟩
    have SX7 : Step w7 X7 := by rw [hX7]; exact Step.of
    have HB7 : Hid (Blk X7 w7.heap.size 30 [.int .i64 tC.s.id, .slice tC.As tC.s.cols.length tC.cs, .int .i64 tC.s.next, .int .i64 tC.sid, .slice tC.Af tC.fs.length tC.cf, .slice tC.Ar tC.rs.length tC.cr]) := by rw [hX7]; exact Blk.new w7 _ 30
    have HO7 : Hid (TbOwnR X7 _ tC) := HOC.out.fut
    rw [← hX7]
    clear hX7
    clear t0 t1 t2 t3 t4 t5 lt
    clear o0 o1 o2 o3 o4 o5 o6 o7 o8 o9 o10 o11 o12 o13 o14 o15 lo
    have HIB : Hid (TbIn X7 tB) := (tb_in HO5.out (by rw [HTB.out]; exact HSS.out.may1)).fut
    have HIC : Hid (TbIn X7 tC) := tb_in HO7.out (by rw [HTC.out]; exact HSS.out.may1)
    have HIA : Hid (TbIn X7 tA) := HTI.out.fut
    have SM1 : Hid (∀ (w' : World), Fut X7 w' → Calls Tryz.prog 21 #[.agg #[.int .i64 tB.s.id, .slice tB.As tB.s.cols.length tB.cs, .int .i64 tB.s.next, .int .i64 tB.sid, .slice tB.Af tB.fs.length tB.cf, .slice tB.Ar tB.rs.length tB.cr], .agg #[.int .i64 tA.s.id, .slice tA.As tA.s.cols.length tA.cs, .int .i64 tA.s.next, .int .i64 tA.sid, .slice tA.Af tA.fs.length tA.cf, .slice tA.Ar tA.rs.length tA.cr]] w' fun e w'' => e = .returned (.bool true) ∧ Step w' w'') := fun w' hq => (msame_any tB tA w' HIB.out HIA.out).mono fun e w'' h => ⟨h.1.yes (by rw [HTB.out, HTA.out]; exact HSS.out), h.2⟩
    have SM2 : Hid (∀ (w' : World), Fut X7 w' → Calls Tryz.prog 21 #[.agg #[.int .i64 tC.s.id, .slice tC.As tC.s.cols.length tC.cs, .int .i64 tC.s.next, .int .i64 tC.sid, .slice tC.Af tC.fs.length tC.cf, .slice tC.Ar tC.rs.length tC.cr], .agg #[.int .i64 tA.s.id, .slice tA.As tA.s.cols.length tA.cs, .int .i64 tA.s.next, .int .i64 tA.sid, .slice tA.Af tA.fs.length tA.cf, .slice tA.Ar tA.rs.length tA.cr]] w' fun e w'' => e = .returned (.bool true) ∧ Step w' w'') := fun w' hq => (msame_any tC tA w' HIC.out HIA.out).mono fun e w'' h => ⟨h.1.yes (by rw [HTC.out, HTA.out]; exact HSS.out), h.2⟩
    clear HIB HIC HIA AP2 AP3
    obtain ⟨a0, a1, a2, a3, a4, a5⟩ := At.z6 (HA3.out.fut (w' := X7)).at0
    have la := (HA3.out.fut (w' := X7)).lt
    obtain ⟨b0, b1, b2, b3, b4, b5⟩ := At.z6 (HB5.out.fut (w' := X7)).at0
    have lb := (HB5.out.fut (w' := X7)).lt
    obtain ⟨c0, c1, c2, c3, c4, c5⟩ := At.z6 (HB7.out.fut (w' := X7)).at0
    have lc := (HB7.out.fut (w' := X7)).lt
    obtain ⟨t0, t1, t2, t3, t4, t5⟩ := At.z6 (HT.out.fut (w' := X7)).at0
    have lt := (HT.out.fut (w' := X7)).lt
    go_wp2_with (first | (go_at_call 21; (with_reducible refine (SM1.out _ inferInstance).mono ?_); rintro e w8 ⟨rfl, hs8⟩; clear SM1; clear a0 a1 a2 a3 a4 a5 la; clear b0 b1 b2 b3 b4 b5 lb; clear c0 c1 c2 c3 c4 c5 lc; clear t0 t1 t2 t3 t4 t5 lt; obtain ⟨a0, a1, a2, a3, a4, a5⟩ := At.z6 (HA3.out.fut (w' := w8)).at0; have la := (HA3.out.fut (w' := w8)).lt; obtain ⟨c0, c1, c2, c3, c4, c5⟩ := At.z6 (HB7.out.fut (w' := w8)).at0; have lc := (HB7.out.fut (w' := w8)).lt; obtain ⟨t0, t1, t2, t3, t4, t5⟩ := At.z6 (HT.out.fut (w' := w8)).at0; have lt := (HT.out.fut (w' := w8)).lt) | (go_at_call 21; (with_reducible refine (SM2.out _ inferInstance).mono ?_); rintro e w9 ⟨rfl, hs9⟩; clear SM2; clear a0 a1 a2 a3 a4 a5 la; clear c0 c1 c2 c3 c4 c5 lc; clear t0 t1 t2 t3 t4 t5 lt; obtain ⟨a0, a1, a2, a3, a4, a5⟩ := At.z6 (HA3.out.fut (w' := w9)).at0; have la := (HA3.out.fut (w' := w9)).lt; obtain ⟨t0, t1, t2, t3, t4, t5⟩ := At.z6 (HT.out.fut (w' := w9)).at0; have lt := (HT.out.fut (w' := w9)).lt))
    go_ret
    exact ⟨rfl, Step.of⟩
end Go.Proofs.YtnphokhehacfnaaGreatDoor

