/-
  Texts put together: Dd.
-/
import Derived.Test.YtnphokhehacfnaaGreatDoorCz01
import Derived.Test.YtnphokhehacfnaaGreatDoorCz07
import Derived.Test.YtnphokhehacfnaaGreatDoorCz10
namespace Go.Proofs.YtnphokhehacfnaaGreatDoor
open Go.RowKit

/-- A clone under way. -/
structure CloI (w wr : World) (t : TbA) (Ac : Option Addr) (cc : Nat) (Af : Option Addr) (cf : Nat) (k : Nat) (A' : Option Addr) (c' : Nat) (os : List RowA) : Prop where
  res : Blk wr (w.heap.size + 1) 30 [.int .i64 0, .slice none 0 0, .int .i64 0, .int .i64 0, .slice none 0 0, .slice none 0 0]
  out : Blk wr (w.heap.size + 2) 30 [.int .i64 t.s.id, .slice Ac t.s.cols.length cc, .int .i64 t.s.next, .int .i64 t.sid, .slice Af t.fs.length cf, .slice A' k c']
  cols : Own wr w.heap.size 90 3 (.slice Ac t.s.cols.length cc) (t.s.cols.map Col.cells)
  ccap : t.s.cols.length ≤ cc
  flds : Own wr w.heap.size 92 3 (.slice Af t.fs.length cf) (t.fs.map Fld.cells)
  rows : OwnD wr w.heap.size A' k c' os
  vs : os.map RowA.vs = (t.rs.map RowA.vs).take k
  len : os.length = k
  st : Step w wr
theorem CloI.start {w w5 : World} (t : TbA) {Ac Af : Option Addr} {cc cf : Nat} (h1 : Blk w5 (w.heap.size + 1) 30 [.int .i64 0, .slice none 0 0, .int .i64 0, .int .i64 0, .slice none 0 0, .slice none 0 0]) (h2 : Blk w5 (w.heap.size + 2) 30 [.int .i64 t.s.id, .slice t.As t.s.cols.length t.cs, .int .i64 t.s.next, .int .i64 t.sid, .slice t.Af t.fs.length t.cf, .slice none 0 0])
    (h3 : Own w5 w.heap.size 90 3 (.slice Ac t.s.cols.length cc) (t.s.cols.map Col.cells)) (h4 : Own w5 w.heap.size 92 3 (.slice Af t.fs.length cf) (t.fs.map Fld.cells)) (hc : t.s.cols.length ≤ cc) (hf : Fut w w5) :
    CloI w ((w5.setCell ⟨w.heap.size + 2, 1, none⟩ (.slice Ac t.s.cols.length cc)).setCell ⟨w.heap.size + 2, 4, none⟩ (.slice Af t.fs.length cf)) t Ac cc Af cf 0 none 0 [] := by
  have b1 := h2.set_ 1 (.slice Ac t.s.cols.length cc)
  refine ⟨(h1.far (p := ⟨w.heap.size + 2, 1, none⟩) (by simp) _).far (p := ⟨w.heap.size + 2, 4, none⟩) (by simp) _, b1.set_ 4 (.slice Af t.fs.length cf), (h3.set_other h2 (by decide) 1 _).set_other b1 (by decide) 4 _, hc, (h4.set_other h2 (by decide) 1 _).set_other b1 (by decide) 4 _, OwnD.nil_ _ _, by simp, rfl,
    ⟨(hf.below.setCell (p := ⟨w.heap.size + 2, 1, none⟩) (by simp) _).setCell (p := ⟨w.heap.size + 2, 4, none⟩) (by simp) _⟩⟩
theorem CloI.next {w wo wa w7 : World} {t : TbA} {Ac Af A' A5 A7 : Option Addr} {cc cf k c' c5 c7 : Nat} {os : List RowA} {r : RowA} (h : CloI w wo t Ac cc Af cf k A' c' os) (hr : t.rs[k]? = some r) (hf : Fut wo wa)
    (hn : Own wa wo.heap.size 36 4 (.slice A5 r.vs.length c5) (r.vs.map Val.cells)) (ho : Own w7 w.heap.size 67 1 (.slice A7 (k + 1) c7) (os.map RowA.cells ++ [[.slice A5 r.vs.length c5]])) (hg : wa.grownBy w7 (Value.slice A' k c').ownBlock) (hs : Below w.heap.size w w7) :
    CloI w (w7.setCell ⟨w.heap.size + 2, 5, none⟩ (.slice A7 (k + 1) c7)) t Ac cc Af cf (k + 1) A7 c7 (os ++ [⟨A5, c5, r.vs⟩]) := by
  have hz : w.heap.size ≤ wo.heap.size := h.st.size
  have hrow : Own wa w.heap.size 67 1 (.slice A' k c') (os.map RowA.cells) := h.rows.rows.out.fut
  have b2 : Blk w7 (w.heap.size + 2) 30 [.int .i64 t.s.id, .slice Ac t.s.cols.length cc, .int .i64 t.s.next, .int .i64 t.sid, .slice Af t.fs.length cf, .slice A' k c'] := (h.out.fut (w' := wa)).grown hg (hrow.ne_ (h.out.fut (w' := wa)) (by decide))
  have b1 : Blk w7 (w.heap.size + 1) 30 [.int .i64 0, .slice none 0 0, .int .i64 0, .int .i64 0, .slice none 0 0, .slice none 0 0] := (h.res.fut (w' := wa)).grown hg (hrow.ne_ (h.res.fut (w' := wa)) (by decide))
  have o1 : Own w7 w.heap.size 90 3 (.slice Ac t.s.cols.length cc) (t.s.cols.map Col.cells) := (h.cols.fut (w' := wa)).grown_other hg fun q hq hh => own_ne hrow (h.cols.fut (w' := wa)) (by decide) q hh hq
  have o2 : Own w7 w.heap.size 92 3 (.slice Af t.fs.length cf) (t.fs.map Fld.cells) := (h.flds.fut (w' := wa)).grown_other hg fun q hq hh => own_ne hrow (h.flds.fut (w' := wa)) (by decide) q hh hq
  have od : OwnD w7 w.heap.size A7 (k + 1) c7 (os ++ [⟨A5, c5, r.vs⟩]) := OwnD.app (r := ⟨A5, c5, r.vs⟩) h.rows hf (Nat.le_refl _) hz hn ho hg
  refine ⟨b1.far (p := ⟨w.heap.size + 2, 5, none⟩) (by simp) _, b2.set_ 5 _, o1.set_other b2 (by decide) 5 _, h.ccap, o2.set_other b2 (by decide) 5 _, ⟨⟨od.rows.out.set_other b2 (by decide) 5 _, fun z hz => (od.rows.rows z hz).set_other b2 (by decide) 5 _⟩, od.diff⟩, ?_, by simp [h.len], ⟨hs.setCell (p := ⟨w.heap.size + 2, 5, none⟩) (by simp) _⟩⟩
  rw [List.map_append, h.vs, List.take_add_one]
  simp [hr]
/-- Six cells stored. -/
theorem CloI.fin {w wr : World} {t : TbA} {Ac Af A' : Option Addr} {cc cf k c' : Nat} {os : List RowA} (h : CloI w wr t Ac cc Af cf k A' c' os) (_hk : k = t.rs.length) (u0 u1 u2 u3 u4 u5 : Value) :
    TbOwn ((((((wr.setCell ⟨w.heap.size + 1, 0, none⟩ u0).setCell ⟨w.heap.size + 1, 1, none⟩ u1).setCell ⟨w.heap.size + 1, 2, none⟩ u2).setCell ⟨w.heap.size + 1, 3, none⟩ u3).setCell ⟨w.heap.size + 1, 4, none⟩ u4).setCell ⟨w.heap.size + 1, 5, none⟩ u5) w.heap.size ⟨t.s, Ac, cc, t.sid, t.fs, Af, cf, os, A', c'⟩ := by
  have c0 := h.res.set_ 0 u0
  have c1 := c0.set_ 1 u1
  have c2 := c1.set_ 2 u2
  have c3 := c2.set_ 3 u3
  have c4 := c3.set_ 4 u4
  have mv : ∀ {e : TypeId} {size : Nat} {v : Value} {l : List (List Value)}, e ≠ 30 → Own wr w.heap.size e size v l → Own ((((((wr.setCell ⟨w.heap.size + 1, 0, none⟩ u0).setCell ⟨w.heap.size + 1, 1, none⟩ u1).setCell ⟨w.heap.size + 1, 2, none⟩ u2).setCell ⟨w.heap.size + 1, 3, none⟩ u3).setCell ⟨w.heap.size + 1, 4, none⟩ u4).setCell ⟨w.heap.size + 1, 5, none⟩ u5) w.heap.size e size v l := fun he ho =>
    (((((ho.set_other h.res he 0 u0).set_other c0 he 1 u1).set_other c1 he 2 u2).set_other c2 he 3 u3).set_other c3 he 4 u4).set_other c4 he 5 u5
  refine ⟨mv (by decide) h.cols, h.ccap, mv (by decide) h.flds, ⟨⟨?_, fun z hz => mv (by decide) (h.rows.rows.rows z hz)⟩, h.rows.diff⟩⟩
  have := mv (by decide) h.rows.rows.out
  rw [← h.len] at this
  exact this

set_option maxRecDepth 100000 in
set_option maxHeartbeats 16000000 in
theorem mclone_any {w0 : World} (t : TbA) (w : World) (h : TbIn w0 t) [f0 : Fut w0 w] :
    Calls Tryz.prog 41 #[.agg #[.int .i64 t.s.id, .slice t.As t.s.cols.length t.cs, .int .i64 t.s.next, .int .i64 t.sid, .slice t.Af t.fs.length t.cf, .slice t.Ar t.rs.length t.cr]] w fun e w' => ∃ (Ac : Option Addr) (cc : Nat) (Af : Option Addr) (cf : Nat) (os : List RowA) (A' : Option Addr) (c' : Nat), e = .returned (.agg #[.int .i64 t.s.id, .slice Ac t.s.cols.length cc, .int .i64 t.s.next, .int .i64 t.sid, .slice Af t.fs.length cf, .slice A' t.rs.length c']) ∧ os.map RowA.vs = t.rs.map RowA.vs ∧ os.length = t.rs.length ∧ TbOwn w' w.heap.size ⟨t.s, Ac, cc, t.sid, t.fs, Af, cf, os, A', c'⟩ ∧ Step w w' := by
  have z0_ := f0.below.size
  have hvl := h.rows.hcap; have hvm := h.rows.hcapm
  have CC : Hid (∀ w' [Fut w w'], Calls Tryz.prog 71 #[.slice t.As t.s.cols.length t.cs] w' fun e w'' => ∃ (A' : Option Addr) (c' : Nat), e = .returned (.slice A' t.s.cols.length c') ∧ t.s.cols.length ≤ c' ∧ Own w'' w.heap.size 90 3 (.slice A' t.s.cols.length c') (t.s.cols.map Col.cells) ∧ Step w' w'') := fun w' hf => haveI := Fut.tr f0 hf;
    (cloneC_any t.As t.cs t.s.cols w' h.sch.futD.at_ (by have := h.sch.len; omega)).mono fun e w'' ⟨A', c', h1, h2, _, h4, h5⟩ => ⟨A', c', h1, h2, h4.more hf.below.size, ⟨h5⟩⟩
  have CF : Hid (∀ w' [Fut w w'], Calls Tryz.prog 85 #[.slice t.Af t.fs.length t.cf] w' fun e w'' => ∃ (A' : Option Addr) (c' : Nat), e = .returned (.slice A' t.fs.length c') ∧ Own w'' w.heap.size 92 3 (.slice A' t.fs.length c') (t.fs.map Fld.cells) ∧ Step w' w'') := fun w' hf => haveI := Fut.tr f0 hf;
    (cloneF_any t.Af t.cf t.fs w' h.flds.fut.at_ h.fsm).mono fun e w'' ⟨A', c', h1, _, _, h4, h5⟩ => ⟨A', c', h1, h4.more hf.below.size, ⟨h5⟩⟩
  obtain ⟨W1, hW1⟩ : ∃ W1, W1 = (w.alloc (.cells #[.int .i64 t.s.id, .slice t.As t.s.cols.length t.cs, .int .i64 t.s.next, .int .i64 t.sid, .slice t.Af t.fs.length t.cf, .slice t.Ar t.rs.length t.cr] 30)).alloc (.cells #[.int .i64 0, .slice none 0 0, .int .i64 0, .int .i64 0, .slice none 0 0, .slice none 0 0] 30) := ⟨_, rfl⟩
  have SW1 : Step w W1 := by rw [hW1]; exact Step.of
  have HT1 : Hid (Blk W1 w.heap.size 30 [.int .i64 t.s.id, .slice t.As t.s.cols.length t.cs, .int .i64 t.s.next, .int .i64 t.sid, .slice t.Af t.fs.length t.cf, .slice t.Ar t.rs.length t.cr]) := by rw [hW1]; exact (Blk.new w [.int .i64 t.s.id, .slice t.As t.s.cols.length t.cs, .int .i64 t.s.next, .int .i64 t.sid, .slice t.Af t.fs.length t.cf, .slice t.Ar t.rs.length t.cr] 30).alloc _
  have HR1 : Hid (Blk W1 (w.heap.size + 1) 30 [.int .i64 0, .slice none 0 0, .int .i64 0, .int .i64 0, .slice none 0 0, .slice none 0 0]) := by rw [hW1]; exact Blk.new_at (by simp) [.int .i64 0, .slice none 0 0, .int .i64 0, .int .i64 0, .slice none 0 0, .slice none 0 0] 30
  have hz1 : W1.heap.size = w.heap.size + 2 := by rw [hW1]; simp
  have HZ1 := hide hz1
  have HW1 := hide hW1
  clear hW1 hz1
  obtain ⟨W, hW⟩ : ∃ W, W = W1.alloc (.cells #[.int .i64 t.s.id, .slice t.As t.s.cols.length t.cs, .int .i64 t.s.next, .int .i64 t.sid, .slice t.Af t.fs.length t.cf, .slice none 0 0] 30) := ⟨_, rfl⟩
  have SW : Step W1 W := by rw [hW]; exact Step.of
  have HTB : Hid (Blk W w.heap.size 30 [.int .i64 t.s.id, .slice t.As t.s.cols.length t.cs, .int .i64 t.s.next, .int .i64 t.sid, .slice t.Af t.fs.length t.cf, .slice t.Ar t.rs.length t.cr]) := by rw [hW]; exact HT1.out.alloc _
  have HRB : Hid (Blk W (w.heap.size + 1) 30 [.int .i64 0, .slice none 0 0, .int .i64 0, .int .i64 0, .slice none 0 0, .slice none 0 0]) := by rw [hW]; exact HR1.out.alloc _
  have HOB : Hid (Blk W (w.heap.size + 2) 30 [.int .i64 t.s.id, .slice t.As t.s.cols.length t.cs, .int .i64 t.s.next, .int .i64 t.sid, .slice t.Af t.fs.length t.cf, .slice none 0 0]) := by rw [hW]; exact Blk.new_at HZ1.out [.int .i64 t.s.id, .slice t.As t.s.cols.length t.cs, .int .i64 t.s.next, .int .i64 t.sid, .slice t.Af t.fs.length t.cf, .slice none 0 0] 30
  have HW := hide hW
  clear hW
  go_enter Tryz.func41, Tryz.ntmps41
  go_upto_region 1 with fail
  rw [← HW1.out]
  obtain ⟨q0, q1, q2, q3, q4, q5⟩ := At.z6 HT1.out.at0
  have lq := HT1.out.lt
  have fq := HT1.out.free
  go_upto_region 2 with fail
  rw [← HW.out]
  rw [show W1.heap.size = w.heap.size + 2 from HZ1.out]
  have hzW : w.heap.size + 1 ≤ W.heap.size := by have := HOB.out.lt; omega
  clear q0 q1 q2 q3 q4 q5 lq fq
  obtain ⟨q0, q1, q2, q3, q4, q5⟩ := At.z6 (HTB.out.fut (w' := W)).at0
  have lq := (HTB.out.fut (w' := W)).lt
  have fq := (HTB.out.fut (w' := W)).free
  obtain ⟨z0, z1, z2, z3, z4, z5⟩ := At.z6 (HOB.out.fut (w' := W)).at0
  have lz := (HOB.out.fut (w' := W)).lt
  have fz := (HOB.out.fut (w' := W)).free
  refine wp_region_held_drew (S := (fun w' => Below (w.heap.size + 1) W w' ∧ (∀ b o, b < w.heap.size + 1 → w'.cell? ⟨b, o, none⟩ = W.cell? ⟨b, o, none⟩))) (by kernel_rfl) (by (try dsimp only); (first | exact ⟨hS1, hS2⟩ | exact ⟨hb5, fun b o h => hb5.cell (p := ⟨b, o, none⟩) h⟩ | exact ⟨hb4, fun b o h => hb4.cell (p := ⟨b, o, none⟩) h⟩ | exact ⟨(fut W _).mono hzW, fun b o h => ((fut W _).mono hzW).cell (p := ⟨b, o, none⟩) h⟩)) (fun hHeld => ?_)
  refine wT 0 11 (by assumption) ?_
  refine wT 4 15 (by assumption) ?_
  refine wT 1 12 (by assumption) ?_
  refine wT 5 16 (by assumption) ?_
  refine wT 2 13 (by assumption) ?_
  refine wT 6 17 (by assumption) ?_
  refine wpAnyH_ready (rs := [3]) (by kernel_rfl) (by simp) ?_
  refine AllReadyH.cons (o := ⟨some 14, _, _, _, _, _⟩) rfl (fun K hK => ?_) AllReadyH.nil
  obtain ⟨hS1, hS2⟩ := hHeld
  go_simp
  (go_at_call 71; (with_reducible refine (CC.out _).mono ?_); rintro e w4 ⟨Ac, cc, rfl, hcc, ho4, hs4⟩; have HCO := hide ho4; have hb4 : Below (w.heap.size + 1) W w4 := (fut W w4).mono (by omega); clear ho4; clear q0 q1 q2 q3 q4 q5 lq fq z0 z1 z2 z3 z4 z5 lz fz; obtain ⟨q0, q1, q2, q3, q4, q5⟩ := At.z6 (HTB.out.fut (w' := w4)).at0; have lq := (HTB.out.fut (w' := w4)).lt; have fq := (HTB.out.fut (w' := w4)).free; obtain ⟨z0, z1, z2, z3, z4, z5⟩ := At.z6 (HOB.out.fut (w' := w4)).at0; have lz := (HOB.out.fut (w' := w4)).lt; have fz := (HOB.out.fut (w' := w4)).free)
  refine hK.out _ _ (by (try dsimp only); (first | exact ⟨hS1, hS2⟩ | exact ⟨hb5, fun b o h => hb5.cell (p := ⟨b, o, none⟩) h⟩ | exact ⟨hb4, fun b o h => hb4.cell (p := ⟨b, o, none⟩) h⟩ | exact ⟨(fut W _).mono hzW, fun b o h => ((fut W _).mono hzW).cell (p := ⟨b, o, none⟩) h⟩)) (fun hHeld => ?_)
  clear hK K
  (try simp only [Act.put, List.setIfInBounds_toArray, List.set_cons_zero, List.set_cons_succ])
  refine wT 8 19 (by assumption) ?_
  refine wT 9 20 (by assumption) ?_
  refine wpAnyH_ready (rs := [7]) (by kernel_rfl) (by simp) ?_
  refine AllReadyH.cons (o := ⟨some 18, _, _, _, _, _⟩) rfl (fun K hK => ?_) AllReadyH.nil
  obtain ⟨hS1, hS2⟩ := hHeld
  go_simp
  (go_at_call 85; (with_reducible refine (CF.out _).mono ?_); rintro e w5 ⟨Af, cf, rfl, ho5, hs5⟩; have HFO := hide ho5; have hb5 : Below (w.heap.size + 1) W w5 := (fut W w5).mono (by omega); clear ho5; clear q0 q1 q2 q3 q4 q5 lq fq z0 z1 z2 z3 z4 z5 lz fz; obtain ⟨q0, q1, q2, q3, q4, q5⟩ := At.z6 (HTB.out.fut (w' := w5)).at0; have lq := (HTB.out.fut (w' := w5)).lt; have fq := (HTB.out.fut (w' := w5)).free; obtain ⟨z0, z1, z2, z3, z4, z5⟩ := At.z6 (HOB.out.fut (w' := w5)).at0; have lz := (HOB.out.fut (w' := w5)).lt; have fz := (HOB.out.fut (w' := w5)).free)
  refine hK.out _ _ (by (try dsimp only); (first | exact ⟨hS1, hS2⟩ | exact ⟨hb5, fun b o h => hb5.cell (p := ⟨b, o, none⟩) h⟩ | exact ⟨hb4, fun b o h => hb4.cell (p := ⟨b, o, none⟩) h⟩ | exact ⟨(fut W _).mono hzW, fun b o h => ((fut W _).mono hzW).cell (p := ⟨b, o, none⟩) h⟩)) (fun hHeld => ?_)
  clear hK K
  (try simp only [Act.put, List.setIfInBounds_toArray, List.set_cons_zero, List.set_cons_succ])
  refine wpAnyH_ready (rs := [10]) (by kernel_rfl) (by simp) ?_
  refine AllReadyH.cons (o := ⟨none, _, _, _, _, _⟩) rfl (fun K hK => ?_) AllReadyH.nil
  go_simp
  refine hK.out _ _ (by (try dsimp only); (exact ⟨(hb5.setCell (p := ⟨w.heap.size + 2, 1, none⟩) (by simp) _), fun b o h => (hb5.setCell (p := ⟨w.heap.size + 2, 1, none⟩) (by simp) _).cell (p := ⟨b, o, none⟩) h⟩)) (fun hHeld => ?_)
  clear hK K
  (try simp only [Act.put, List.setIfInBounds_toArray, List.set_cons_zero, List.set_cons_succ])
  refine wT 11 21 (by assumption) ?_
  refine wT 12 22 (by assumption) ?_
  refine wpAnyH_ready (rs := [13]) (by kernel_rfl) (by simp) ?_
  refine AllReadyH.cons (o := ⟨none, _, _, _, _, _⟩) rfl (fun K hK => ?_) AllReadyH.nil
  go_simp
  refine hK.out _ _ (by (try dsimp only); (exact ⟨((hb5.setCell (p := ⟨w.heap.size + 2, 1, none⟩) (by simp) _).setCell (p := ⟨w.heap.size + 2, 4, none⟩) (by simp) _), fun b o h => ((hb5.setCell (p := ⟨w.heap.size + 2, 1, none⟩) (by simp) _).setCell (p := ⟨w.heap.size + 2, 4, none⟩) (by simp) _).cell (p := ⟨b, o, none⟩) h⟩)) (fun hHeld => ?_)
  clear hK K
  (try simp only [Act.put, List.setIfInBounds_toArray, List.set_cons_zero, List.set_cons_succ])
  refine wpAnyH_done (by kernel_rfl) ?_ _
  have HI := hide (CloI.start t HRB.out.fut HOB.out.fut HCO.out.fut HFO.out hcc (Fut.mk' (fut w w5)))
  obtain ⟨X, hX⟩ : ∃ x : World, x = (w5.setCell ⟨w.heap.size + 2, 1, none⟩ (.slice Ac t.s.cols.length cc)).setCell ⟨w.heap.size + 2, 4, none⟩ (.slice Af t.fs.length cf) := ⟨_, rfl⟩
  rw [← hX] at HI
  rw [← hX]
  have HX := hide hX
  clear hX q0 q1 q2 q3 q4 q5 lq fq z0 z1 z2 z3 z4 z5 lz fz
  have hsX := HI.out.st
  have HTX : Hid (Blk X w.heap.size 30 [.int .i64 t.s.id, .slice t.As t.s.cols.length t.cs, .int .i64 t.s.next, .int .i64 t.sid, .slice t.Af t.fs.length t.cf, .slice t.Ar t.rs.length t.cr]) := by rw [HX.out]; exact ((HTB.out.fut (w' := w5)).far (p := ⟨w.heap.size + 2, 1, none⟩) (by simp) _).far (p := ⟨w.heap.size + 2, 4, none⟩) (by simp) _
  obtain ⟨q0, q1, q2, q3, q4, q5⟩ := At.z6 HTX.out.at0
  have lq := HTX.out.lt
  go_wp2_with fail
  clear q0 q1 q2 q3 q4 q5 lq
  go_loopw [5, 26] (fun _ i wr => ∃ (k : Nat) (A' : Option Addr) (c' : Nat) (os : List RowA), k ≤ t.rs.length ∧ i = .int .i64 k ∧ CloI w wr t Ac cc Af cf k A' c' os) (fun _ i _ => t.rs.length - (intOf i).toNat)
  case atStart => exact ⟨0, none, 0, [], Nat.zero_le _, rfl, HI.out⟩
  case round =>
    clear HI HTX
    obtain ⟨k, A', c', os, hk, rfl, hci⟩ := hrel
    obtain ⟨wo, rfl⟩ : ∃ x : World, x = wr := ⟨_, rfl⟩
    have HI := hide hci
    have hst := hci.st
    have hzo := hst.size
    clear hci
    by_cases hlt : k < t.rs.length
    · obtain ⟨b, off, hA, hb, r, hrk, hri, p0⟩ := h.rows.row (w' := wo) inferInstance (k := k) hlt
      have HVK := hide hrk
      have HOL := hide HI.out.len
      have hkl : (k : Int) < (t.rs.length : Int) := by omega
      have hk0 : (0 : Int) ≤ (k : Int) := by omega
      have hlb : b < wo.heap.size := by omega
      have CV : Hid (∀ w' [Fut wo w'], Calls Tryz.prog 86 #[.slice r.A r.vs.length r.cap] w' fun e w'' => ∃ (A' : Option Addr) (c' : Nat), e = .returned (.slice A' r.vs.length c') ∧ Own w'' wo.heap.size 36 4 (.slice A' r.vs.length c') (r.vs.map Val.cells) ∧ Step w' w'') := fun w' hf => haveI : Fut w0 w' := Fut.tr (Fut.tr f0 ⟨hst.below⟩) hf;
        (cloneV_any r.A r.cap r.vs w' hri.fut.at_ hri.hcapm).mono fun e w'' ⟨A', c', h1, _, _, h4, h5⟩ => ⟨A', c', h1, h4.more hf.below.size, ⟨h5⟩⟩
      obtain ⟨W2, hW2⟩ : ∃ W2, W2 = wo.alloc (.cells #[.slice r.A r.vs.length r.cap] 67) := ⟨_, rfl⟩
      have SW2 : Step wo W2 := by rw [hW2]; exact Step.of
      have HRV : Hid (Blk W2 wo.heap.size 67 [.slice r.A r.vs.length r.cap]) := by rw [hW2]; exact Blk.new wo [.slice r.A r.vs.length r.cap] 67
      have HOB2 : Hid (Blk W2 (w.heap.size + 2) 30 [.int .i64 t.s.id, .slice Ac t.s.cols.length cc, .int .i64 t.s.next, .int .i64 t.sid, .slice Af t.fs.length cf, .slice A' k c']) := HI.out.out.fut
      have HW2 := hide hW2
      have hzW2 := SW2.size
      rw [hA]
      clear hW2 hrk hA
      go_upto_region 6 with fail
      rw [HW2.out.symm]
      clear p0
      obtain ⟨z0, z1, z2, z3, z4, z5⟩ := At.z6 (HOB2.out.fut (w' := W2)).at0
      have lz := (HOB2.out.fut (w' := W2)).lt
      have fz := (HOB2.out.fut (w' := W2)).free
      have g0 := At.z1 (HRV.out.fut (w' := W2)).at0
      have lg := (HRV.out.fut (w' := W2)).lt
      have fg := (HRV.out.fut (w' := W2)).free
      refine wp_region_held_drew (S := (fun w' => Step w w' ∧ True)) (by kernel_rfl) (by (try dsimp only); (exact ⟨Step.of, trivial⟩)) (fun hHeld => ?_)
      refine wT 0 30 (by assumption) ?_
      refine wT 2 32 (by assumption) ?_
      refine wpAnyH_ready (rs := [1, 3]) (by kernel_rfl) (by simp) ?_
      refine AllReadyH.cons (o := ⟨some 31, _, _, _, _, _⟩) rfl (fun K hK => ?_) (AllReadyH.cons (o := ⟨some 33, _, _, _, _, _⟩) rfl (fun K hK => ?_) AllReadyH.nil)
      · go_simp
        refine hK.out _ _ (by (try dsimp only); (exact ⟨Step.of, trivial⟩)) (fun hHeld => ?_)
        clear hK K
        (try simp only [Act.put, List.setIfInBounds_toArray, List.set_cons_zero, List.set_cons_succ])
        refine wpAnyH_ready (rs := [3]) (by kernel_rfl) (by simp) ?_
        refine AllReadyH.cons (o := ⟨some 33, _, _, _, _, _⟩) rfl (fun K hK => ?_) AllReadyH.nil
        go_simp
        refine hK.out _ _ (by (try dsimp only); (exact ⟨Step.of, trivial⟩)) (fun hHeld => ?_)
        clear hK K
        (try simp only [Act.put, List.setIfInBounds_toArray, List.set_cons_zero, List.set_cons_succ])
        refine wpAnyH_ready (rs := [4]) (by kernel_rfl) (by simp) ?_
        refine AllReadyH.cons (o := ⟨some 34, _, _, _, _, _⟩) rfl (fun K hK => ?_) AllReadyH.nil
        obtain ⟨hS1, hS2⟩ := hHeld
        go_simp
        (go_at_call 86; (with_reducible refine (CV.out _).mono ?_); rintro e w6 ⟨A5, c5, rfl, ho6, hs6⟩; have HN6 := hide ho6; clear ho6; clear z0 z1 z2 z3 z4 z5 lz fz g0 lg fg; obtain ⟨z0, z1, z2, z3, z4, z5⟩ := At.z6 (HOB2.out.fut (w' := w6)).at0; have lz := (HOB2.out.fut (w' := w6)).lt; have fz := (HOB2.out.fut (w' := w6)).free; have g0 := At.z1 (HRV.out.fut (w' := w6)).at0; have lg := (HRV.out.fut (w' := w6)).lt; have fg := (HRV.out.fut (w' := w6)).free)
        refine hK.out _ _ (by (try dsimp only); (exact ⟨Step.of, trivial⟩)) (fun hHeld => ?_)
        clear hK K
        (try simp only [Act.put, List.setIfInBounds_toArray, List.set_cons_zero, List.set_cons_succ])
        refine wT 5 35 (by assumption) ?_
        refine wpAnyH_ready (rs := [6]) (by kernel_rfl) (by simp) ?_
        refine AllReadyH.cons (o := ⟨some 36, _, _, _, _, _⟩) rfl (fun K hK => ?_) AllReadyH.nil
        go_simp
        refine hK.out _ _ (by (try dsimp only); (exact ⟨Step.of, trivial⟩)) (fun hHeld => ?_)
        clear hK K
        (try simp only [Act.put, List.setIfInBounds_toArray, List.set_cons_zero, List.set_cons_succ])
        refine wpAnyH_ready (rs := [7]) (by kernel_rfl) (by simp) ?_
        refine AllReadyH.cons (o := ⟨some 37, _, _, _, _, _⟩) rfl (fun K hK => ?_) AllReadyH.nil
        (have HOW := hide ((HI.out.rows.rows.out.fut (w' := w6)).alloc (.cells #[.slice A5 r.vs.length c5] 67)); have HNew := hide (SlAt.one w6 1 [.slice A5 r.vs.length c5] 67); refine step_append_sl rfl (.tmp 31) (.tmp 36) 28 rfl eiRow (base := w.heap.size) (xs := os.map RowA.cells) rfl HOW.out (rows_fit _) (ys := [[.slice A5 r.vs.length c5]]) rfl (by simp) HNew.out (slice_fit A5 r.vs.length c5) (by rw [List.length_map, HOL.out]; show (k + 1) * 24 ≤ _; omega) (fut w (w6.alloc (.cells #[.slice A5 r.vs.length c5] 67))).size (N := k + 1) (by rw [List.length_map, HOL.out]; rfl) ?_; intro A7 c7 w7 hq1 hq2 hown7 hgr7 hbel7; have hs7 : Below w.heap.size w w7 := (fut w (w6.alloc (.cells #[.slice A5 r.vs.length c5] 67))).trans hbel7; have HI7 := hide (HI.out.next HVK.out (Fut.mk' (fut wo (w6.alloc (.cells #[.slice A5 r.vs.length c5] 67)))) (HN6.out.alloc _) hown7 hgr7 hs7); have ob7 := ((HI.out.out.fut (w' := w6)).alloc (.cells #[.slice A5 r.vs.length c5] 67)).grown hgr7 (HOW.out.ne_ ((HI.out.out.fut (w' := w6)).alloc (.cells #[.slice A5 r.vs.length c5] 67)) (by decide)); clear z0 z1 z2 z3 z4 z5 lz fz g0 lg fg; obtain ⟨z0, z1, z2, z3, z4, z5⟩ := At.z6 ob7.at0; have lz := ob7.lt; have fz := ob7.free; clear hown7 hgr7 hbel7 ob7)
        refine hK.out _ _ (by (try dsimp only); (exact ⟨⟨hs7⟩, trivial⟩)) (fun hHeld => ?_)
        clear hK K
        (try simp only [Act.put, List.setIfInBounds_toArray, List.set_cons_zero, List.set_cons_succ])
        refine wT 8 38 (by assumption) ?_
        refine wpAnyH_ready (rs := [9]) (by kernel_rfl) (by simp) ?_
        refine AllReadyH.cons (o := ⟨none, _, _, _, _, _⟩) rfl (fun K hK => ?_) AllReadyH.nil
        go_simp
        refine hK.out _ _ (by (try dsimp only); (exact ⟨⟨hs7.setCell (p := ⟨w.heap.size + 2, 5, none⟩) (by simp) _⟩, trivial⟩)) (fun hHeld => ?_)
        clear hK K
        (try simp only [Act.put, List.setIfInBounds_toArray, List.set_cons_zero, List.set_cons_succ])
        refine wpAnyH_done (by kernel_rfl) ?_ _
        obtain ⟨Y, hY⟩ : ∃ y : World, y = w7.setCell ⟨w.heap.size + 2, 5, none⟩ (.slice A7 (k + 1) c7) := ⟨_, rfl⟩
        rw [← hY] at HI7
        rw [← hY]
        clear hY z0 z1 z2 z3 z4 z5 lz fz
        go_wp2_with fail
        go_roundw
        case rel => exact ⟨k + 1, A7, c7, os ++ [⟨A5, c5, r.vs⟩], by omega, by go_num, HI7.out⟩
        case measure => simp [intOf]; omega
      · go_simp
        refine hK.out _ _ (by (try dsimp only); (exact ⟨Step.of, trivial⟩)) (fun hHeld => ?_)
        clear hK K
        (try simp only [Act.put, List.setIfInBounds_toArray, List.set_cons_zero, List.set_cons_succ])
        refine wpAnyH_ready (rs := [1, 4]) (by kernel_rfl) (by simp) ?_
        refine AllReadyH.cons (o := ⟨some 31, _, _, _, _, _⟩) rfl (fun K hK => ?_) (AllReadyH.cons (o := ⟨some 34, _, _, _, _, _⟩) rfl (fun K hK => ?_) AllReadyH.nil)
        · go_simp
          refine hK.out _ _ (by (try dsimp only); (exact ⟨Step.of, trivial⟩)) (fun hHeld => ?_)
          clear hK K
          (try simp only [Act.put, List.setIfInBounds_toArray, List.set_cons_zero, List.set_cons_succ])
          refine wpAnyH_ready (rs := [4]) (by kernel_rfl) (by simp) ?_
          refine AllReadyH.cons (o := ⟨some 34, _, _, _, _, _⟩) rfl (fun K hK => ?_) AllReadyH.nil
          obtain ⟨hS1, hS2⟩ := hHeld
          go_simp
          (go_at_call 86; (with_reducible refine (CV.out _).mono ?_); rintro e w6 ⟨A5, c5, rfl, ho6, hs6⟩; have HN6 := hide ho6; clear ho6; clear z0 z1 z2 z3 z4 z5 lz fz g0 lg fg; obtain ⟨z0, z1, z2, z3, z4, z5⟩ := At.z6 (HOB2.out.fut (w' := w6)).at0; have lz := (HOB2.out.fut (w' := w6)).lt; have fz := (HOB2.out.fut (w' := w6)).free; have g0 := At.z1 (HRV.out.fut (w' := w6)).at0; have lg := (HRV.out.fut (w' := w6)).lt; have fg := (HRV.out.fut (w' := w6)).free)
          refine hK.out _ _ (by (try dsimp only); (exact ⟨Step.of, trivial⟩)) (fun hHeld => ?_)
          clear hK K
          (try simp only [Act.put, List.setIfInBounds_toArray, List.set_cons_zero, List.set_cons_succ])
          refine wT 5 35 (by assumption) ?_
          refine wpAnyH_ready (rs := [6]) (by kernel_rfl) (by simp) ?_
          refine AllReadyH.cons (o := ⟨some 36, _, _, _, _, _⟩) rfl (fun K hK => ?_) AllReadyH.nil
          go_simp
          refine hK.out _ _ (by (try dsimp only); (exact ⟨Step.of, trivial⟩)) (fun hHeld => ?_)
          clear hK K
          (try simp only [Act.put, List.setIfInBounds_toArray, List.set_cons_zero, List.set_cons_succ])
          refine wpAnyH_ready (rs := [7]) (by kernel_rfl) (by simp) ?_
          refine AllReadyH.cons (o := ⟨some 37, _, _, _, _, _⟩) rfl (fun K hK => ?_) AllReadyH.nil
          (have HOW := hide ((HI.out.rows.rows.out.fut (w' := w6)).alloc (.cells #[.slice A5 r.vs.length c5] 67)); have HNew := hide (SlAt.one w6 1 [.slice A5 r.vs.length c5] 67); refine step_append_sl rfl (.tmp 31) (.tmp 36) 28 rfl eiRow (base := w.heap.size) (xs := os.map RowA.cells) rfl HOW.out (rows_fit _) (ys := [[.slice A5 r.vs.length c5]]) rfl (by simp) HNew.out (slice_fit A5 r.vs.length c5) (by rw [List.length_map, HOL.out]; show (k + 1) * 24 ≤ _; omega) (fut w (w6.alloc (.cells #[.slice A5 r.vs.length c5] 67))).size (N := k + 1) (by rw [List.length_map, HOL.out]; rfl) ?_; intro A7 c7 w7 hq1 hq2 hown7 hgr7 hbel7; have hs7 : Below w.heap.size w w7 := (fut w (w6.alloc (.cells #[.slice A5 r.vs.length c5] 67))).trans hbel7; have HI7 := hide (HI.out.next HVK.out (Fut.mk' (fut wo (w6.alloc (.cells #[.slice A5 r.vs.length c5] 67)))) (HN6.out.alloc _) hown7 hgr7 hs7); have ob7 := ((HI.out.out.fut (w' := w6)).alloc (.cells #[.slice A5 r.vs.length c5] 67)).grown hgr7 (HOW.out.ne_ ((HI.out.out.fut (w' := w6)).alloc (.cells #[.slice A5 r.vs.length c5] 67)) (by decide)); clear z0 z1 z2 z3 z4 z5 lz fz g0 lg fg; obtain ⟨z0, z1, z2, z3, z4, z5⟩ := At.z6 ob7.at0; have lz := ob7.lt; have fz := ob7.free; clear hown7 hgr7 hbel7 ob7)
          refine hK.out _ _ (by (try dsimp only); (exact ⟨⟨hs7⟩, trivial⟩)) (fun hHeld => ?_)
          clear hK K
          (try simp only [Act.put, List.setIfInBounds_toArray, List.set_cons_zero, List.set_cons_succ])
          refine wT 8 38 (by assumption) ?_
          refine wpAnyH_ready (rs := [9]) (by kernel_rfl) (by simp) ?_
          refine AllReadyH.cons (o := ⟨none, _, _, _, _, _⟩) rfl (fun K hK => ?_) AllReadyH.nil
          go_simp
          refine hK.out _ _ (by (try dsimp only); (exact ⟨⟨hs7.setCell (p := ⟨w.heap.size + 2, 5, none⟩) (by simp) _⟩, trivial⟩)) (fun hHeld => ?_)
          clear hK K
          (try simp only [Act.put, List.setIfInBounds_toArray, List.set_cons_zero, List.set_cons_succ])
          refine wpAnyH_done (by kernel_rfl) ?_ _
          obtain ⟨Y, hY⟩ : ∃ y : World, y = w7.setCell ⟨w.heap.size + 2, 5, none⟩ (.slice A7 (k + 1) c7) := ⟨_, rfl⟩
          rw [← hY] at HI7
          rw [← hY]
          clear hY z0 z1 z2 z3 z4 z5 lz fz
          go_wp2_with fail
          go_roundw
          case rel => exact ⟨k + 1, A7, c7, os ++ [⟨A5, c5, r.vs⟩], by omega, by go_num, HI7.out⟩
          case measure => simp [intOf]; omega
        · obtain ⟨hS1, hS2⟩ := hHeld
          go_simp
          (go_at_call 86; (with_reducible refine (CV.out _).mono ?_); rintro e w6 ⟨A5, c5, rfl, ho6, hs6⟩; have HN6 := hide ho6; clear ho6; clear z0 z1 z2 z3 z4 z5 lz fz g0 lg fg; obtain ⟨z0, z1, z2, z3, z4, z5⟩ := At.z6 (HOB2.out.fut (w' := w6)).at0; have lz := (HOB2.out.fut (w' := w6)).lt; have fz := (HOB2.out.fut (w' := w6)).free; have g0 := At.z1 (HRV.out.fut (w' := w6)).at0; have lg := (HRV.out.fut (w' := w6)).lt; have fg := (HRV.out.fut (w' := w6)).free)
          refine hK.out _ _ (by (try dsimp only); (exact ⟨Step.of, trivial⟩)) (fun hHeld => ?_)
          clear hK K
          (try simp only [Act.put, List.setIfInBounds_toArray, List.set_cons_zero, List.set_cons_succ])
          refine wT 5 35 (by assumption) ?_
          refine wpAnyH_ready (rs := [1, 6]) (by kernel_rfl) (by simp) ?_
          refine AllReadyH.cons (o := ⟨some 31, _, _, _, _, _⟩) rfl (fun K hK => ?_) (AllReadyH.cons (o := ⟨some 36, _, _, _, _, _⟩) rfl (fun K hK => ?_) AllReadyH.nil)
          · go_simp
            refine hK.out _ _ (by (try dsimp only); (exact ⟨Step.of, trivial⟩)) (fun hHeld => ?_)
            clear hK K
            (try simp only [Act.put, List.setIfInBounds_toArray, List.set_cons_zero, List.set_cons_succ])
            refine wpAnyH_ready (rs := [6]) (by kernel_rfl) (by simp) ?_
            refine AllReadyH.cons (o := ⟨some 36, _, _, _, _, _⟩) rfl (fun K hK => ?_) AllReadyH.nil
            go_simp
            refine hK.out _ _ (by (try dsimp only); (exact ⟨Step.of, trivial⟩)) (fun hHeld => ?_)
            clear hK K
            (try simp only [Act.put, List.setIfInBounds_toArray, List.set_cons_zero, List.set_cons_succ])
            refine wpAnyH_ready (rs := [7]) (by kernel_rfl) (by simp) ?_
            refine AllReadyH.cons (o := ⟨some 37, _, _, _, _, _⟩) rfl (fun K hK => ?_) AllReadyH.nil
            (have HOW := hide ((HI.out.rows.rows.out.fut (w' := w6)).alloc (.cells #[.slice A5 r.vs.length c5] 67)); have HNew := hide (SlAt.one w6 1 [.slice A5 r.vs.length c5] 67); refine step_append_sl rfl (.tmp 31) (.tmp 36) 28 rfl eiRow (base := w.heap.size) (xs := os.map RowA.cells) rfl HOW.out (rows_fit _) (ys := [[.slice A5 r.vs.length c5]]) rfl (by simp) HNew.out (slice_fit A5 r.vs.length c5) (by rw [List.length_map, HOL.out]; show (k + 1) * 24 ≤ _; omega) (fut w (w6.alloc (.cells #[.slice A5 r.vs.length c5] 67))).size (N := k + 1) (by rw [List.length_map, HOL.out]; rfl) ?_; intro A7 c7 w7 hq1 hq2 hown7 hgr7 hbel7; have hs7 : Below w.heap.size w w7 := (fut w (w6.alloc (.cells #[.slice A5 r.vs.length c5] 67))).trans hbel7; have HI7 := hide (HI.out.next HVK.out (Fut.mk' (fut wo (w6.alloc (.cells #[.slice A5 r.vs.length c5] 67)))) (HN6.out.alloc _) hown7 hgr7 hs7); have ob7 := ((HI.out.out.fut (w' := w6)).alloc (.cells #[.slice A5 r.vs.length c5] 67)).grown hgr7 (HOW.out.ne_ ((HI.out.out.fut (w' := w6)).alloc (.cells #[.slice A5 r.vs.length c5] 67)) (by decide)); clear z0 z1 z2 z3 z4 z5 lz fz g0 lg fg; obtain ⟨z0, z1, z2, z3, z4, z5⟩ := At.z6 ob7.at0; have lz := ob7.lt; have fz := ob7.free; clear hown7 hgr7 hbel7 ob7)
            refine hK.out _ _ (by (try dsimp only); (exact ⟨⟨hs7⟩, trivial⟩)) (fun hHeld => ?_)
            clear hK K
            (try simp only [Act.put, List.setIfInBounds_toArray, List.set_cons_zero, List.set_cons_succ])
            refine wT 8 38 (by assumption) ?_
            refine wpAnyH_ready (rs := [9]) (by kernel_rfl) (by simp) ?_
            refine AllReadyH.cons (o := ⟨none, _, _, _, _, _⟩) rfl (fun K hK => ?_) AllReadyH.nil
            go_simp
            refine hK.out _ _ (by (try dsimp only); (exact ⟨⟨hs7.setCell (p := ⟨w.heap.size + 2, 5, none⟩) (by simp) _⟩, trivial⟩)) (fun hHeld => ?_)
            clear hK K
            (try simp only [Act.put, List.setIfInBounds_toArray, List.set_cons_zero, List.set_cons_succ])
            refine wpAnyH_done (by kernel_rfl) ?_ _
            obtain ⟨Y, hY⟩ : ∃ y : World, y = w7.setCell ⟨w.heap.size + 2, 5, none⟩ (.slice A7 (k + 1) c7) := ⟨_, rfl⟩
            rw [← hY] at HI7
            rw [← hY]
            clear hY z0 z1 z2 z3 z4 z5 lz fz
            go_wp2_with fail
            go_roundw
            case rel => exact ⟨k + 1, A7, c7, os ++ [⟨A5, c5, r.vs⟩], by omega, by go_num, HI7.out⟩
            case measure => simp [intOf]; omega
          · go_simp
            refine hK.out _ _ (by (try dsimp only); (exact ⟨Step.of, trivial⟩)) (fun hHeld => ?_)
            clear hK K
            (try simp only [Act.put, List.setIfInBounds_toArray, List.set_cons_zero, List.set_cons_succ])
            refine wpAnyH_ready (rs := [1]) (by kernel_rfl) (by simp) ?_
            refine AllReadyH.cons (o := ⟨some 31, _, _, _, _, _⟩) rfl (fun K hK => ?_) AllReadyH.nil
            go_simp
            refine hK.out _ _ (by (try dsimp only); (exact ⟨Step.of, trivial⟩)) (fun hHeld => ?_)
            clear hK K
            (try simp only [Act.put, List.setIfInBounds_toArray, List.set_cons_zero, List.set_cons_succ])
            refine wpAnyH_ready (rs := [7]) (by kernel_rfl) (by simp) ?_
            refine AllReadyH.cons (o := ⟨some 37, _, _, _, _, _⟩) rfl (fun K hK => ?_) AllReadyH.nil
            (have HOW := hide ((HI.out.rows.rows.out.fut (w' := w6)).alloc (.cells #[.slice A5 r.vs.length c5] 67)); have HNew := hide (SlAt.one w6 1 [.slice A5 r.vs.length c5] 67); refine step_append_sl rfl (.tmp 31) (.tmp 36) 28 rfl eiRow (base := w.heap.size) (xs := os.map RowA.cells) rfl HOW.out (rows_fit _) (ys := [[.slice A5 r.vs.length c5]]) rfl (by simp) HNew.out (slice_fit A5 r.vs.length c5) (by rw [List.length_map, HOL.out]; show (k + 1) * 24 ≤ _; omega) (fut w (w6.alloc (.cells #[.slice A5 r.vs.length c5] 67))).size (N := k + 1) (by rw [List.length_map, HOL.out]; rfl) ?_; intro A7 c7 w7 hq1 hq2 hown7 hgr7 hbel7; have hs7 : Below w.heap.size w w7 := (fut w (w6.alloc (.cells #[.slice A5 r.vs.length c5] 67))).trans hbel7; have HI7 := hide (HI.out.next HVK.out (Fut.mk' (fut wo (w6.alloc (.cells #[.slice A5 r.vs.length c5] 67)))) (HN6.out.alloc _) hown7 hgr7 hs7); have ob7 := ((HI.out.out.fut (w' := w6)).alloc (.cells #[.slice A5 r.vs.length c5] 67)).grown hgr7 (HOW.out.ne_ ((HI.out.out.fut (w' := w6)).alloc (.cells #[.slice A5 r.vs.length c5] 67)) (by decide)); clear z0 z1 z2 z3 z4 z5 lz fz g0 lg fg; obtain ⟨z0, z1, z2, z3, z4, z5⟩ := At.z6 ob7.at0; have lz := ob7.lt; have fz := ob7.free; clear hown7 hgr7 hbel7 ob7)
            refine hK.out _ _ (by (try dsimp only); (exact ⟨⟨hs7⟩, trivial⟩)) (fun hHeld => ?_)
            clear hK K
            (try simp only [Act.put, List.setIfInBounds_toArray, List.set_cons_zero, List.set_cons_succ])
            refine wT 8 38 (by assumption) ?_
            refine wpAnyH_ready (rs := [9]) (by kernel_rfl) (by simp) ?_
            refine AllReadyH.cons (o := ⟨none, _, _, _, _, _⟩) rfl (fun K hK => ?_) AllReadyH.nil
            go_simp
            refine hK.out _ _ (by (try dsimp only); (exact ⟨⟨hs7.setCell (p := ⟨w.heap.size + 2, 5, none⟩) (by simp) _⟩, trivial⟩)) (fun hHeld => ?_)
            clear hK K
            (try simp only [Act.put, List.setIfInBounds_toArray, List.set_cons_zero, List.set_cons_succ])
            refine wpAnyH_done (by kernel_rfl) ?_ _
            obtain ⟨Y, hY⟩ : ∃ y : World, y = w7.setCell ⟨w.heap.size + 2, 5, none⟩ (.slice A7 (k + 1) c7) := ⟨_, rfl⟩
            rw [← hY] at HI7
            rw [← hY]
            clear hY z0 z1 z2 z3 z4 z5 lz fz
            go_wp2_with fail
            go_roundw
            case rel => exact ⟨k + 1, A7, c7, os ++ [⟨A5, c5, r.vs⟩], by omega, by go_num, HI7.out⟩
            case measure => simp [intOf]; omega
    · obtain rfl : k = t.rs.length := by omega
      obtain ⟨q0, q1, q2, q3, q4, q5⟩ := At.z6 HI.out.out.at0
      have lq := HI.out.out.lt
      obtain ⟨z0, z1, z2, z3, z4, z5⟩ := At.z6 HI.out.res.at0
      have lz := HI.out.res.lt
      have fz := HI.out.res.free
      go_wp2_with fail
      have HF := HI.out.fin rfl (.int .i64 t.s.id) (.slice Ac t.s.cols.length cc) (.int .i64 t.s.next) (.int .i64 t.sid) (.slice Af t.fs.length cf) (.slice A' t.rs.length c')
      refine bodyPost_ret (v := .agg #[.int .i64 t.s.id, .slice Ac t.s.cols.length cc, .int .i64 t.s.next, .int .i64 t.sid, .slice Af t.fs.length cf, .slice A' t.rs.length c']) (by simp [results, Tryz.results41, go_sem, z0, z1, z2, z3, z4, z5]) rfl ?_
      exact ⟨Ac, cc, Af, cf, os, A', c', rfl, by rw [HI.out.vs, List.take_of_length_le (by simp)], HI.out.len, HF, Step.of⟩
end Go.Proofs.YtnphokhehacfnaaGreatDoor

