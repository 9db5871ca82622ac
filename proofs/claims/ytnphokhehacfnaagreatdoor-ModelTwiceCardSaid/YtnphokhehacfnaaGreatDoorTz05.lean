/-
  Texts put together: Xj.
-/
import Derived.Test.YtnphokhehacfnaaGreatDoorTz04
import Derived.Test.YtnphokhehacfnaaGreatDoorTz90
import Derived.Test.YtnphokhehacfnaaGreatDoorTz91
namespace Go.Proofs.YtnphokhehacfnaaGreatDoor
open Go.RowKit

set_option maxRecDepth 100000 in
set_option maxHeartbeats 8000000 in
theorem rsameS_eq {w1 w2 : World} (s : Sch) (A1 A2 : Option Addr) (c1 c2 : Nat) (w : World) (h1 : SchIn w1 s A1 c1) (h2 : SchIn w2 s A2 c2) [f1 : Fut w1 w] [f2 : Fut w2 w] :
    Calls Tryz.prog 15 #[.agg #[.int .i64 s.id, .slice A1 s.cols.length c1, .int .i64 s.next], .agg #[.int .i64 s.id, .slice A2 s.cols.length c2, .int .i64 s.next]] w fun e w' => e = .returned (.bool true) ∧ Step w w' := by
  have z1 := f1.below.size; have z2 := f2.below.size; have hlen := h1.len
  obtain ⟨W, hW⟩ : ∃ x : World, x = (w.alloc (.cells #[.int .i64 s.id, .slice A1 s.cols.length c1, .int .i64 s.next] 24)).alloc (.cells #[.int .i64 s.id, .slice A2 s.cols.length c2, .int .i64 s.next] 24) := ⟨_, rfl⟩
  have SW : Step w W := by rw [hW]; exact Step.of
  have HA : Hid (Blk W w.heap.size 24 [.int .i64 s.id, .slice A1 s.cols.length c1, .int .i64 s.next]) := by rw [hW]; exact (Blk.new w _ 24).alloc _
  have HB : Hid (Blk W (w.heap.size + 1) 24 [.int .i64 s.id, .slice A2 s.cols.length c2, .int .i64 s.next]) := by rw [hW]; exact Blk.new_at (by simp) _ 24
  obtain ⟨x0, x1, x2⟩ := At.z3 HA.out.at0
  have lx := HA.out.lt
  obtain ⟨y0, y1, y2⟩ := At.z3 HB.out.at0
  have ly := HB.out.lt
  go_enter Tryz.func15, Tryz.ntmps15
  go_upto_region 1 with fail
  rw [← hW]
  clear hW
  go_wp2_with fail
  clear x0 x1 x2 lx y0 y1 y2 ly
  go_loopw [5] (fun i wr => ∃ k : Nat, k ≤ s.cols.length ∧ i = .int .i64 k ∧ Step W wr) (fun i _ => s.cols.length - (intOf i).toNat)
  case atStart => exact ⟨0, Nat.zero_le _, rfl, Step.of⟩
  case round =>
    obtain ⟨k, hk, rfl, hst⟩ := hrel
    obtain ⟨wo, rfl⟩ : ∃ x : World, x = wr := ⟨_, rfl⟩
    have hzo := hst.size
    obtain ⟨x0, x1, x2⟩ := At.z3 (HA.out.fut (w' := wo)).at0
    have lx := (HA.out.fut (w' := wo)).lt
    obtain ⟨y0, y1, y2⟩ := At.z3 (HB.out.fut (w' := wo)).at0
    have ly := (HB.out.fut (w' := wo)).lt
    by_cases hlt : k < s.cols.length
    · haveI g1 : Fut w1 wo := Fut.tr (Fut.tr f1 (Fut.mk' SW.below)) (Fut.mk' hst.below)
      haveI g2 : Fut w2 wo := Fut.tr (Fut.tr f2 (Fut.mk' SW.below)) (Fut.mk' hst.below)
      obtain ⟨b1, o1, hA1, hb1, hc1⟩ := h1.at_.elem (w' := wo) g1 (k := k) (by simpa using hlt)
      obtain ⟨b2, o2, hA2, hb2, hc2⟩ := h2.at_.elem (w' := wo) g2 (k := k) (by simpa using hlt)
      obtain ⟨x, hx⟩ : ∃ x, s.cols[k]? = some x := ⟨_, List.getElem?_eq_getElem hlt⟩
      obtain ⟨p0, p1, p2⟩ := At.l3 (hc1 k x.cells (by simp [hx]))
      obtain ⟨q0, q1, q2⟩ := At.l3 (hc2 k x.cells (by simp [hx]))
      have l1 : b1 < wo.heap.size := by have := g1.below.size; omega
      have l2 : b2 < wo.heap.size := by have := g2.below.size; omega
      have hkl : (k : Int) < (s.cols.length : Int) := by omega
      have hk0 : (0 : Int) ≤ (k : Int) := by omega
      rw [hA1] at x1
      rw [hA2] at y1
      clear hc1 hc2 hx
      go_upto_region 6 with fail
      refine wp_region_held_drew (S := (fun w' => Step wo w' ∧ (∀ b o, b < wo.heap.size → w'.cell? ⟨b, o, none⟩ = wo.cell? ⟨b, o, none⟩))) (by kernel_rfl) (by (try dsimp only); (first | exact ⟨hS1, hS2⟩ | exact ⟨Step.of, (bcell (fut _ _)).1⟩)) (fun hHeld => ?_)
      refine wT 0 34 (by assumption) ?_
      refine wT 2 36 (by assumption) ?_
      refine wT 5 39 (by assumption) ?_
      refine wT 7 41 (by assumption) ?_
      refine wT 1 35 (by assumption) ?_
      refine wT 6 40 (by assumption) ?_
      refine wT 3 37 (by assumption) ?_
      refine wT 8 42 (by assumption) ?_
      refine wT 4 38 (by assumption) ?_
      refine wT 9 43 (by assumption) ?_
      refine wT 10 44 (by assumption) ?_
      refine wpAnyH_done (by kernel_rfl) ?_ _
      go_wp2_with fail
      go_roundw
      case rel => exact ⟨k + 1, by omega, by go_num, Step.of⟩
      case measure => simp [intOf]; omega
    · obtain rfl : k = s.cols.length := by omega
      go_wp2_with fail
      go_ret
      exact ⟨rfl, Step.of⟩
set_option maxRecDepth 100000 in
set_option maxHeartbeats 8000000 in
theorem rsameP_eq {w1 w2 : World} (id : Int) (fs : List Fld) (A1 A2 : Option Addr) (c1 c2 : Nat) (w : World) (h1 : FsIn w1 fs A1 c1) (h2 : FsIn w2 fs A2 c2) [f1 : Fut w1 w] [f2 : Fut w2 w] :
    Calls Tryz.prog 16 #[.agg #[.int .i64 id, .slice A1 fs.length c1], .agg #[.int .i64 id, .slice A2 fs.length c2]] w fun e w' => e = .returned (.bool true) ∧ Step w w' := by
  have z1 := f1.below.size; have z2 := f2.below.size; have hlen := h1.len
  obtain ⟨W, hW⟩ : ∃ x : World, x = (w.alloc (.cells #[.int .i64 id, .slice A1 fs.length c1] 27)).alloc (.cells #[.int .i64 id, .slice A2 fs.length c2] 27) := ⟨_, rfl⟩
  have SW : Step w W := by rw [hW]; exact Step.of
  have HA : Hid (Blk W w.heap.size 27 [.int .i64 id, .slice A1 fs.length c1]) := by rw [hW]; exact (Blk.new w _ 27).alloc _
  have HB : Hid (Blk W (w.heap.size + 1) 27 [.int .i64 id, .slice A2 fs.length c2]) := by rw [hW]; exact Blk.new_at (by simp) _ 27
  obtain ⟨x0, x1⟩ := At.z2 HA.out.at0
  have lx := HA.out.lt
  obtain ⟨y0, y1⟩ := At.z2 HB.out.at0
  have ly := HB.out.lt
  go_enter Tryz.func16, Tryz.ntmps16
  go_upto_region 1 with fail
  rw [← hW]
  clear hW
  go_wp2_with fail
  clear x0 x1 lx y0 y1 ly
  go_loopw [5] (fun i wr => ∃ k : Nat, k ≤ fs.length ∧ i = .int .i64 k ∧ Step W wr) (fun i _ => fs.length - (intOf i).toNat)
  case atStart => exact ⟨0, Nat.zero_le _, rfl, Step.of⟩
  case round =>
    obtain ⟨k, hk, rfl, hst⟩ := hrel
    obtain ⟨wo, rfl⟩ : ∃ x : World, x = wr := ⟨_, rfl⟩
    have hzo := hst.size
    obtain ⟨x0, x1⟩ := At.z2 (HA.out.fut (w' := wo)).at0
    have lx := (HA.out.fut (w' := wo)).lt
    obtain ⟨y0, y1⟩ := At.z2 (HB.out.fut (w' := wo)).at0
    have ly := (HB.out.fut (w' := wo)).lt
    by_cases hlt : k < fs.length
    · haveI g1 : Fut w1 wo := Fut.tr (Fut.tr f1 (Fut.mk' SW.below)) (Fut.mk' hst.below)
      haveI g2 : Fut w2 wo := Fut.tr (Fut.tr f2 (Fut.mk' SW.below)) (Fut.mk' hst.below)
      obtain ⟨b1, o1, hA1, hb1, hc1⟩ := h1.at_.elem (w' := wo) g1 (k := k) (by simpa using hlt)
      obtain ⟨b2, o2, hA2, hb2, hc2⟩ := h2.at_.elem (w' := wo) g2 (k := k) (by simpa using hlt)
      obtain ⟨x, hx⟩ : ∃ x, fs[k]? = some x := ⟨_, List.getElem?_eq_getElem hlt⟩
      obtain ⟨p0, p1, p2⟩ := At.l3 (hc1 k x.cells (by simp [hx]))
      obtain ⟨q0, q1, q2⟩ := At.l3 (hc2 k x.cells (by simp [hx]))
      have l1 : b1 < wo.heap.size := by have := g1.below.size; omega
      have l2 : b2 < wo.heap.size := by have := g2.below.size; omega
      have hkl : (k : Int) < (fs.length : Int) := by omega
      have hk0 : (0 : Int) ≤ (k : Int) := by omega
      rw [hA1] at x1
      rw [hA2] at y1
      clear hc1 hc2 hx
      go_upto_region 6 with fail
      refine wp_region_held_drew (S := (fun w' => Step wo w' ∧ (∀ b o, b < wo.heap.size → w'.cell? ⟨b, o, none⟩ = wo.cell? ⟨b, o, none⟩))) (by kernel_rfl) (by (try dsimp only); (first | exact ⟨hS1, hS2⟩ | exact ⟨Step.of, (bcell (fut _ _)).1⟩)) (fun hHeld => ?_)
      refine wT 0 27 (by assumption) ?_
      refine wT 2 29 (by assumption) ?_
      refine wT 5 32 (by assumption) ?_
      refine wT 7 34 (by assumption) ?_
      refine wT 1 28 (by assumption) ?_
      refine wT 6 33 (by assumption) ?_
      refine wT 3 30 (by assumption) ?_
      refine wT 8 35 (by assumption) ?_
      refine wT 4 31 (by assumption) ?_
      refine wT 9 36 (by assumption) ?_
      refine wT 10 37 (by assumption) ?_
      refine wpAnyH_done (by kernel_rfl) ?_ _
      go_wp2_with fail
      go_roundw
      case rel => exact ⟨k + 1, by omega, by go_num, Step.of⟩
      case measure => simp [intOf]; omega
    · obtain rfl : k = fs.length := by omega
      go_wp2_with fail
      go_ret
      exact ⟨rfl, Step.of⟩
set_option maxRecDepth 100000 in
set_option maxHeartbeats 8000000 in
theorem rsameR_eq {w1 w2 : World} (rs us : List RowA) (A1 A2 : Option Addr) (c1 c2 : Nat) (w : World) (h1 : RowsIn w1 rs A1 c1) (h2 : RowsIn w2 us A2 c2) [f1 : Fut w1 w] [f2 : Fut w2 w] (he : rs.map RowA.vs = us.map RowA.vs) :
    Calls Tryz.prog 66 #[.slice A1 rs.length c1, .slice A2 us.length c2] w fun e w' => e = .returned (.bool true) ∧ Step w w' := by
  have z1 := f1.below.size; have z2 := f2.below.size; have hrc := h1.hcap; have hrm := h1.hcapm
  have hl : us.length = rs.length := by have := congrArg List.length he; simpa using this.symm
  have HE := hide he
  clear he
  have hli : ((us.length : Int)) = (rs.length : Int) := by omega
  go_enter Tryz.func66, Tryz.ntmps66
  go_wp2_with fail
  go_loopw [5, 6] (fun i _ wr => ∃ k : Nat, k ≤ rs.length ∧ i = .int .i64 k ∧ Step w wr) (fun i _ _ => rs.length - (intOf i).toNat)
  case atStart => exact ⟨0, Nat.zero_le _, rfl, Step.of⟩
  case round =>
    obtain ⟨k, hk, rfl, hst⟩ := hrel
    obtain ⟨wo, rfl⟩ : ∃ x : World, x = wr := ⟨_, rfl⟩
    have hzo := hst.size
    by_cases hlt : k < rs.length
    · haveI g1 : Fut w1 wo := Fut.tr f1 (Fut.mk' hst.below)
      haveI g2 : Fut w2 wo := Fut.tr f2 (Fut.mk' hst.below)
      obtain ⟨b1, o1, hA1, hb1, r, hr, hri, p0⟩ := h1.row (w' := wo) g1 (k := k) hlt
      obtain ⟨b2, o2, hA2, hb2, u, hu, hui, q0⟩ := h2.row (w' := wo) g2 (k := k) (by omega)
      have hvu : r.vs = u.vs := by
        have h3 := congrArg (fun q => q[k]?) HE.out
        simp only [List.getElem?_map, hr, hu, Option.map_some] at h3
        injection h3
      have hcr := hri.hcap; have hcrm := hri.hcapm
      rw [← hvu] at q0
      have l1 : b1 < wo.heap.size := by have := g1.below.size; omega
      have l2 : b2 < wo.heap.size := by have := g2.below.size; omega
      have hkl : (k : Int) < (rs.length : Int) := by omega
      have hklu : (k : Int) < (us.length : Int) := by omega
      have hk0 : (0 : Int) ≤ (k : Int) := by omega
      have HP0 := hide p0; have HQ0 := hide q0
      rw [hA1, hA2]
      have HVU := hide hvu
      clear hr hu hvu
      go_upto_region 6 with fail
      refine wp_region_held_drew (S := (fun w' => Step wo w' ∧ (∀ b o, b < wo.heap.size → w'.cell? ⟨b, o, none⟩ = wo.cell? ⟨b, o, none⟩))) (by kernel_rfl) (by (try dsimp only); (first | exact ⟨hS1, hS2⟩ | exact ⟨Step.of, (bcell (fut _ _)).1⟩)) (fun hHeld => ?_)
      refine wT 0 18 (by assumption) ?_
      refine wT 1 19 (by assumption) ?_
      refine wT 6 24 (by assumption) ?_
      refine wT 7 25 (by assumption) ?_
      refine wT 2 20 (by assumption) ?_
      refine wT 8 26 (by assumption) ?_
      refine wT 3 21 (by assumption) ?_
      refine wT 9 27 (by assumption) ?_
      refine wT 4 22 (by assumption) ?_
      refine wT 10 28 (by assumption) ?_
      refine wT 5 23 (by assumption) ?_
      refine wT 11 29 (by assumption) ?_
      refine wT 12 30 (by assumption) ?_
      refine wpAnyH_done (by kernel_rfl) ?_ _
      go_wp2_with fail
      go_loopw [6] (fun i wr => ∃ j : Nat, j ≤ r.vs.length ∧ i = .int .i64 j ∧ Step wo wr) (fun i _ => r.vs.length - (intOf i).toNat)
      case atStart => exact ⟨0, Nat.zero_le _, rfl, Step.of⟩
      case round =>
        obtain ⟨j, hj, rfl, hst2⟩ := hrel
        obtain ⟨wi, rfl⟩ : ∃ x : World, x = wr := ⟨_, rfl⟩
        have hzi := hst2.size
        haveI g3 : Fut w1 wi := Fut.tr g1 (Fut.mk' hst2.below)
        haveI g4 : Fut w2 wi := Fut.tr g2 (Fut.mk' hst2.below)
        have p0 : wi.cell? ⟨b1, o1 + k, none⟩ = some (.slice r.A r.vs.length r.cap) := by rw [(bcell (fut wo wi)).1 b1 _ l1]; exact HP0.out
        have q0 : wi.cell? ⟨b2, o2 + k, none⟩ = some (.slice u.A r.vs.length u.cap) := by rw [(bcell (fut wo wi)).1 b2 _ l2]; exact HQ0.out
        have m1 : b1 < wi.heap.size := by omega
        have m2 : b2 < wi.heap.size := by omega
        by_cases hlj : j < r.vs.length
        · obtain ⟨b3, o3, hA3, hb3, hc3⟩ := hri.at_.elem (w' := wi) g3 (k := j) (by simpa using hlj)
          obtain ⟨b4, o4, hA4, hb4, hc4⟩ := hui.at_.elem (w' := wi) g4 (k := j) (by rw [← HVU.out]; simpa using hlj)
          obtain ⟨v, hv⟩ : ∃ v, r.vs[j]? = some v := ⟨_, List.getElem?_eq_getElem hlj⟩
          obtain ⟨v0, v1, v2, v3⟩ := At.l4 (hc3 j v.cells (by simp [hv]))
          obtain ⟨t0, t1, t2, t3⟩ := At.l4 (hc4 j v.cells (by rw [← HVU.out]; simp [hv]))
          have m3 : b3 < wi.heap.size := by have := g3.below.size; omega
          have m4 : b4 < wi.heap.size := by have := g4.below.size; omega
          have hjl : (j : Int) < (r.vs.length : Int) := by omega
          have hj0 : (0 : Int) ≤ (j : Int) := by omega
          rw [hA3] at p0
          rw [hA4] at q0
          clear hc3 hc4 hv
          go_upto_region 11 with fail
          refine wp_region_held_drew (S := (fun w' => Step wi w' ∧ (∀ b o, b < wi.heap.size → w'.cell? ⟨b, o, none⟩ = wi.cell? ⟨b, o, none⟩))) (by kernel_rfl) (by (try dsimp only); (first | exact ⟨hS1, hS2⟩ | exact ⟨Step.of, (bcell (fut _ _)).1⟩)) (fun hHeld => ?_)
          refine wT 0 41 (by assumption) ?_
          refine wT 1 42 (by assumption) ?_
          refine wT 5 46 (by assumption) ?_
          refine wT 8 49 (by assumption) ?_
          refine wT 9 50 (by assumption) ?_
          refine wT 13 54 (by assumption) ?_
          refine wT 2 43 (by assumption) ?_
          refine wT 10 51 (by assumption) ?_
          refine wT 3 44 (by assumption) ?_
          refine wT 11 52 (by assumption) ?_
          refine wT 4 45 (by assumption) ?_
          refine wT 12 53 (by assumption) ?_
          refine wT 6 47 (by assumption) ?_
          refine wT 14 55 (by assumption) ?_
          refine wT 7 48 (by assumption) ?_
          refine wT 15 56 (by assumption) ?_
          refine wT 16 57 (by assumption) ?_
          refine wpAnyH_done (by kernel_rfl) ?_ _
          go_wp2_with fail
          go_roundw
          case rel => exact ⟨j + 1, by omega, by go_num, Step.of⟩
          case measure => simp [intOf]; omega
        · obtain rfl : j = r.vs.length := by omega
          go_wp2_with fail
          go_roundw
          case rel => exact ⟨k + 1, by omega, by go_num, Step.of⟩
          case measure => simp [intOf]; omega
    · obtain rfl : k = rs.length := by omega
      go_wp2_with fail
      go_ret
      exact ⟨rfl, Step.of⟩
set_option maxRecDepth 100000 in
set_option maxHeartbeats 8000000 in
theorem rplain_eq {w1 w2 : World} (a b : TbA) (w : World) (h1 : TbIn w1 a) (h2 : TbIn w2 b) [f1 : Fut w1 w] [f2 : Fut w2 w] (he : a.tb = b.tb) :
    Calls Tryz.prog 30 #[.agg #[.int .i64 a.s.id, .slice a.As a.s.cols.length a.cs, .int .i64 a.s.next, .int .i64 a.sid, .slice a.Af a.fs.length a.cf, .slice a.Ar a.rs.length a.cr], .agg #[.int .i64 b.s.id, .slice b.As b.s.cols.length b.cs, .int .i64 b.s.next, .int .i64 b.sid, .slice b.Af b.fs.length b.cf, .slice b.Ar b.rs.length b.cr]] w fun e w' => e = .returned (.bool true) ∧ Step w w' := by
  have e1 : a.s = b.s := congrArg Tb.s he
  have e2 : a.sid = b.sid := congrArg Tb.sid he
  have e3 : a.fs = b.fs := congrArg Tb.fs he
  have e4 : a.rs.map RowA.vs = b.rs.map RowA.vs := congrArg Tb.rows he
  have C1 : Hid (∀ (w' : World), Fut w w' → Calls Tryz.prog 15 #[.agg #[.int .i64 a.s.id, .slice a.As a.s.cols.length a.cs, .int .i64 a.s.next], .agg #[.int .i64 b.s.id, .slice b.As b.s.cols.length b.cs, .int .i64 b.s.next]] w' fun e w'' => e = .returned (.bool true) ∧ Step w' w'') := fun w' hq => by
    haveI := Fut.tr f1 hq; haveI := Fut.tr f2 hq
    rw [← e1]
    exact rsameS_eq a.s a.As b.As a.cs b.cs w' h1.sch (by rw [e1]; exact h2.sch)
  have C2 : Hid (∀ (w' : World), Fut w w' → Calls Tryz.prog 16 #[.agg #[.int .i64 a.sid, .slice a.Af a.fs.length a.cf], .agg #[.int .i64 b.sid, .slice b.Af b.fs.length b.cf]] w' fun e w'' => e = .returned (.bool true) ∧ Step w' w'') := fun w' hq => by
    haveI := Fut.tr f1 hq; haveI := Fut.tr f2 hq
    rw [← e2, ← e3]
    exact rsameP_eq a.sid a.fs a.Af b.Af a.cf b.cf w' h1.flds (by rw [e3]; exact h2.flds)
  have C3 : Hid (∀ (w' : World), Fut w w' → Calls Tryz.prog 66 #[.slice a.Ar a.rs.length a.cr, .slice b.Ar b.rs.length b.cr] w' fun e w'' => e = .returned (.bool true) ∧ Step w' w'') := fun w' hq => by
    haveI := Fut.tr f1 hq; haveI := Fut.tr f2 hq
    exact rsameR_eq a.rs b.rs a.Ar b.Ar a.cr b.cr w' h1.rows h2.rows e4
  obtain ⟨W, hW⟩ : ∃ x : World, x = (w.alloc (.cells #[.int .i64 a.s.id, .slice a.As a.s.cols.length a.cs, .int .i64 a.s.next, .int .i64 a.sid, .slice a.Af a.fs.length a.cf, .slice a.Ar a.rs.length a.cr] 30)).alloc (.cells #[.int .i64 b.s.id, .slice b.As b.s.cols.length b.cs, .int .i64 b.s.next, .int .i64 b.sid, .slice b.Af b.fs.length b.cf, .slice b.Ar b.rs.length b.cr] 30) := ⟨_, rfl⟩
  have SW : Step w W := by rw [hW]; exact Step.of
  have HA : Hid (Blk W w.heap.size 30 [.int .i64 a.s.id, .slice a.As a.s.cols.length a.cs, .int .i64 a.s.next, .int .i64 a.sid, .slice a.Af a.fs.length a.cf, .slice a.Ar a.rs.length a.cr]) := by rw [hW]; exact (Blk.new w _ 30).alloc _
  have HB : Hid (Blk W (w.heap.size + 1) 30 [.int .i64 b.s.id, .slice b.As b.s.cols.length b.cs, .int .i64 b.s.next, .int .i64 b.sid, .slice b.Af b.fs.length b.cf, .slice b.Ar b.rs.length b.cr]) := by rw [hW]; exact Blk.new_at (by simp) _ 30
  clear h1 h2 he e1 e2 e3 e4
  obtain ⟨x0, x1, x2, x3, x4, x5⟩ := At.z6 HA.out.at0
  have lx := HA.out.lt
  obtain ⟨y0, y1, y2, y3, y4, y5⟩ := At.z6 HB.out.at0
  have ly := HB.out.lt
  go_enter Tryz.func30, Tryz.ntmps30
  go_upto_region 1 with fail
  rw [← hW]
  clear hW
  go_wp2_with (first | (go_at_call 15; (with_reducible refine (C1.out _ inferInstance).mono ?_); rintro e w3 ⟨rfl, hs3⟩; clear x0 x1 x2 x3 x4 x5 lx y0 y1 y2 y3 y4 y5 ly; obtain ⟨x0, x1, x2, x3, x4, x5⟩ := At.z6 (HA.out.fut (w' := w3)).at0; have lx := (HA.out.fut (w' := w3)).lt; obtain ⟨y0, y1, y2, y3, y4, y5⟩ := At.z6 (HB.out.fut (w' := w3)).at0; have ly := (HB.out.fut (w' := w3)).lt) | (go_at_call 16; (with_reducible refine (C2.out _ inferInstance).mono ?_); rintro e w4 ⟨rfl, hs4⟩; clear x0 x1 x2 x3 x4 x5 lx y0 y1 y2 y3 y4 y5 ly; obtain ⟨x0, x1, x2, x3, x4, x5⟩ := At.z6 (HA.out.fut (w' := w4)).at0; have lx := (HA.out.fut (w' := w4)).lt; obtain ⟨y0, y1, y2, y3, y4, y5⟩ := At.z6 (HB.out.fut (w' := w4)).at0; have ly := (HB.out.fut (w' := w4)).lt) | (go_at_call 66; (with_reducible refine (C3.out _ inferInstance).mono ?_); rintro e w5 ⟨rfl, hs5⟩))
  go_ret
  exact ⟨rfl, Step.of⟩
end Go.Proofs.YtnphokhehacfnaaGreatDoor

