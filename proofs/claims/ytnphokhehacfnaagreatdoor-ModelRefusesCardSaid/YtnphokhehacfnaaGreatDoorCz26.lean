/-
  Texts put together: Xc, Xd, Xe, Xm.
-/
import Derived.Test.YtnphokhehacfnaaGreatDoorCz24
import Derived.Test.YtnphokhehacfnaaGreatDoorCz25
namespace Go.Proofs.YtnphokhehacfnaaGreatDoor
open Go.RowKit

section
variable {P : Program} {w : World}
theorem run_append_slA {t ty e : TypeId} {size bytes : Nat} (hei : EI P t e size bytes) {base : Nat} {v : Value} {xs : List (List Value)} (hown : Own w base e size v xs)
    {A : Option Addr} {c : Nat} {ys : List (List Value)} (hy : ys ≠ []) (hr : SlAt w w.heap.size size A ys) (hys : Fit size ys) (hlen : (xs.length + ys.length) * bytes ≤ 140737488355328) (hbase : base ≤ w.heap.size) :
    ∃ v' w', (Builtin.append_ #[t, t] ty #[v, .slice A ys.length c]).run P w = .ok v' w' ∧ Own w' base e size v' (xs ++ ys) ∧ w.grownBy w' v.ownBlock ∧ (v'.ownBlock = v.ownBlock ∨ v'.ownBlock = some w.heap.size) := by
  obtain ⟨ht, ⟨i, z, hi, hz, hsize, hby, hzs⟩, hsz, hbz⟩ := hei
  have hle : xs.length + ys.length ≤ 140737488355328 := Nat.le_trans (Nat.le_mul_of_pos_right _ hbz) hlen
  have hfl : ys.flatten.length = ys.length * size := flatten_length hys.len
  obtain ⟨b, off, rfl, _, hc⟩ := hr (List.length_pos_iff.2 hy)
  have hat := At.flatten hys.len hc
  obtain ⟨v', w', hrun, h2, h3, _, h4⟩ := run_append_own_at (P := P) w base t ty e i z size bytes ht hi hz hsize hby hzs hsz v xs.length xs.flatten hown ⟨b, off, none⟩ ys.length c ys.flatten hfl (fun j u hu => by rw [Addr.add_lit]; exact hat j u hu) hys.one (by simp only [maxLen]; omega) hlen hbase
  refine ⟨v', w', hrun, ?_, h3, h4⟩
  unfold Own
  rw [List.length_append, List.flatten_append]
  exact h2
theorem step_append_slA {ops : Array Oper} {o : Oper} {a : Act} {K : Act → World → Prop} {Q : Exit → Act → World → Prop} {E : Prop} (hgd : o.guard = none) (s x : Operand) (t : TypeId)
    (ho : o.op = .call { callee := .builtin .append, args := #[s, x], argTypes := #[t, t] }) {e : TypeId} {size bytes : Nat} (hei : EI P t e size bytes)
    {base : Nat} {v : Value} {xs : List (List Value)} (hs : a.eval s = v) (hown : Own w base e size v xs) (hxs : Fit size xs)
    {A : Option Addr} {c : Nat} {ys : List (List Value)} {n : Nat} (hx : a.eval x = .slice A n c) (hn : n = ys.length) (hy : ys ≠ []) (hr : SlAt w w.heap.size size A ys) (hys : Fit size ys)
    (hlen : (xs.length + ys.length) * bytes ≤ 140737488355328) (hbase : base ≤ w.heap.size)
    {N : Nat} (hN : xs.length + ys.length = N) (h : ∀ (A' : Option Addr) (cap' : Nat) w', N ≤ cap' → cap' ≤ maxLen → Own w' base e size (.slice A' N cap') (xs ++ ys) → w.grownBy w' v.ownBlock → ((Value.slice A' N cap').ownBlock = v.ownBlock ∨ (Value.slice A' N cap').ownBlock = some w.heap.size) → K (a.put o.dst (.slice A' N cap')) w') :
    if Region.wanted o (yielded ops a.tmps) = true then Oper.wp P o a w K Q else E := by
  have hw : Region.wanted o (yielded ops a.tmps) = true := by simp [Region.wanted, hgd]
  rw [if_pos hw]
  subst hn
  obtain ⟨v', w', hrun, h2, h3, h4⟩ := run_append_slA (P := P) (ty := o.type) hei hown hy hr (c := c) hys hlen hbase
  unfold Oper.wp execOp
  simp only [ho, resolve, invoke, builtin, Sem.run_bind, Sem.run_pure, Result.andThen_ok, List.map_toArray, List.map_cons, List.map_nil, hs, hx, hrun]
  obtain ⟨A', cap', hv, hc1, hc2, _⟩ := h2.slice (n := N) (hxs.app hys).len (by rw [List.length_append]; exact hN)
  subst hv
  exact h A' cap' w' hc1 hc2 h2 h3 h4
end
theorem addcP_eq (t : Tb) (o : Opp) : addcP t o = if (addR t.s o.name o.ck).2 ≠ 0 then .error 5 else .ok ⟨(addR t.s o.name o.ck).1, t.sid, t.fs, t.rows.map (· ++ [Val.zero])⟩ := by
  unfold addcP shapeP
  by_cases h : (addR t.s o.name o.ck).2 ≠ 0
  · rw [if_pos h, if_pos h]
  · rw [if_neg h, if_neg h]
/-- A drop. -/
theorem drop_any25 (g D T O : Nat) (t : TbA) (o : OpA) (w : World) (h : Doer w g D T O t o) (hf : TbFine t) (hg : g ≤ w.heap.size) (hn12 : t.s.cols.length ≤ 12) (hn4 : t.rs.length ≤ 4096) (hrow : ∀ r ∈ t.rs, r.vs.length = t.s.cols.length) :
    Calls Tryz.prog 92 #[.pointer (some ⟨D, 0, none⟩)] w fun e w' => RunR g T w (dropP t.tb o.op) e w' := by
  by_cases hi : idx (named o.col) t.s.cols < 0
  · have := drop_none g D T O t o w h hf hg hi
    rw [show dropP t.tb o.op = .error 5 by rw [dropP, if_pos (show idx (named o.op.col) t.tb.s.cols < 0 from hi)]]
    exact this
  · exact drop_go g D T O t o w h hf hg hn12 hn4 hrow hi
set_option maxRecDepth 100000 in
set_option maxHeartbeats 4000000 in
theorem run_drop {w1 : World} (g D T O : Nat) (t : TbA) (o : OpA) (w : World) (h : Doer w g D T O t o) (_ho : OpIn w1 o) [_f1 : Fut w1 w] (hf : TbFine t) (hg : g ≤ w.heap.size) (hn12 : t.s.cols.length ≤ 12) (hn4 : t.rs.length ≤ 4096) (hrow : ∀ r ∈ t.rs, r.vs.length = t.s.cols.length) (hk : o.kind = 5) :
    Calls Tryz.prog 44 #[.pointer (some ⟨D, 0, none⟩)] w fun e w' => RunR g T w (dropP t.tb o.op) e w' := by
  have CC := drop_any25 g D T O t o w h hf hg hn12 hn4 hrow
  have HD := hide h
  obtain ⟨d0, d1⟩ := At.z2 (HD.out.d.fut (w' := w)).at0
  have ld := (HD.out.d.fut (w' := w)).lt
  obtain ⟨t0, t1, t2, t3, t4, t5⟩ := At.z6 (HD.out.tb.fut (w' := w)).at0
  have lt_ := (HD.out.tb.fut (w' := w)).lt
  have ft_ := (HD.out.tb.fut (w' := w)).free
  obtain ⟨o0, o1, o2, o3, o4, o5, o6, o7, o8, o9, o10, o11, o12, o13, o14, o15⟩ := At.zOp (HD.out.op.fut (w' := w)).at0
  have lo := (HD.out.op.fut (w' := w)).lt
  unfold TbA.cells at *
  rw [hk] at o0
  clear hk
  cases hR : dropP t.tb o.op with
  | error c =>
    rw [hR] at CC
    have CC := hide CC
    clear hR
    go_enter Tryz.func44, Tryz.ntmps44
    go_wp2_with (go_at_call 92; (with_reducible refine CC.out.mono ?_); rintro e w3 ⟨hmt, rfl⟩; have HMT := hide hmt; clear hmt)
    exact ⟨rfl, HMT.out, rfl⟩
  | ok u =>
    rw [hR] at CC
    have CC := hide CC
    clear hR
    go_enter Tryz.func44, Tryz.ntmps44
    go_wp2_with (go_at_call 92; (with_reducible refine CC.out.mono ?_); rintro e w3 ⟨hmt, rfl, t2, ht2, hb2, ho2⟩; have HMT := hide hmt; have HT2 := hide ht2; have HB2 := hide hb2; have HO2 := hide ho2; clear hmt ht2 hb2 ho2)
    go_end0
    exact ⟨HMT.out, rfl, t2, HT2.out, HB2.out, HO2.out⟩
set_option maxRecDepth 100000 in
set_option maxHeartbeats 16000000 in
theorem run_ren {w1 : World} (g D T O : Nat) (t : TbA) (o : OpA) (w : World) (h : Doer w g D T O t o) (ho : OpIn w1 o) [_f1 : Fut w1 w] (hf : TbFine t) (hg : g ≤ w.heap.size) (hk : o.kind = 6) :
    Calls Tryz.prog 44 #[.pointer (some ⟨D, 0, none⟩)] w fun e w' => RunR g T w (shapeP t.tb (renameR t.s o.col o.name)) e w' := by
  have hin := h.own.r.tin hf
  have HSC := hide hin.sch
  have HD := hide h
  have hnm := ho.name
  obtain ⟨s2, hs2⟩ : ∃ s2, (renameR t.s o.col o.name).1 = s2 := ⟨_, rfl⟩
  obtain ⟨x2, hx2⟩ : ∃ x2, (renameR t.s o.col o.name).2 = x2 := ⟨_, rfl⟩
  have DR : Hid (∀ (w' : World), Fut w w' → Calls Tryz.prog 93 #[.agg #[.int .i64 t.s.id, .slice t.As t.s.cols.length t.cs, .int .i64 t.s.next], .string o.col, .string o.name] w' fun e w'' => ∃ (A' : Option Addr) (c' : Nat), e = .returned (.tuple #[.agg #[.int .i64 s2.id, .slice A' s2.cols.length c', .int .i64 s2.next], .int .i64 x2]) ∧ s2.cols.length ≤ c' ∧ Own w'' w'.heap.size 90 3 (.slice A' s2.cols.length c') (s2.cols.map Col.cells) ∧ Step w' w'') := fun w' hq => by
    have := rename_any t.s t.As t.cs o.col o.name w' (HSC.out.below hq.below) hnm
    unfold SchRes Sch.val at this
    rw [hs2, hx2] at this
    exact this.mono fun e w'' ⟨A', c', h1, h2, _, h3, h4⟩ => ⟨A', c', h1, h2, h3, ⟨h4⟩⟩
  obtain ⟨R, hR⟩ : ∃ R, shapeP t.tb (renameR t.s o.col o.name) = R := ⟨_, rfl⟩
  have HR : Hid ((if x2 ≠ 0 then .error 5 else .ok (⟨s2, t.sid, t.fs, t.rs.map RowA.vs⟩ : Tb)) = R) := by
    show _ = _
    rw [← hR, ← hs2, ← hx2]
    show _ = shapeP t.tb (renameR t.s o.col o.name)
    unfold shapeP
    rfl
  rw [hR]
  clear hR hs2 hx2 h hin
  obtain ⟨d0, d1⟩ := At.z2 (HD.out.d.fut (w' := w)).at0
  have ld := (HD.out.d.fut (w' := w)).lt
  obtain ⟨t0, t1, t2, t3, t4, t5⟩ := At.z6 (HD.out.tb.fut (w' := w)).at0
  have lt_ := (HD.out.tb.fut (w' := w)).lt
  have ft_ := (HD.out.tb.fut (w' := w)).free
  obtain ⟨o0, o1, o2, o3, o4, o5, o6, o7, o8, o9, o10, o11, o12, o13, o14, o15⟩ := At.zOp (HD.out.op.fut (w' := w)).at0
  have lo := (HD.out.op.fut (w' := w)).lt
  unfold TbA.cells at *
  rw [hk] at o0
  clear hk
  go_enter Tryz.func44, Tryz.ntmps44
  go_upto_region 18 with fail
  by_cases hz : x2 = 0
  · subst hz
    have HE : Hid (R = .ok (⟨s2, t.sid, t.fs, t.rs.map RowA.vs⟩ : Tb)) := by show _ = _; rw [← HR.out, if_neg (by simp)]
    have SO : Hid (∀ {A : Option Addr} {c' B : Nat} {w'' : World} (_ : Fut w w'') (_ : Own w'' B 90 3 (.slice A s2.cols.length c') (s2.cols.map Col.cells)) (_ : g ≤ B) (_ : s2.cols.length ≤ c'), Calls Tryz.prog 90 #[.pointer (some ⟨D, 0, none⟩), .agg #[.int .i64 s2.id, .slice A s2.cols.length c', .int .i64 s2.next], .int .i64 0] w'' fun e w' => e = .returned (.tuple #[]) ∧ Doer w' g D T O ⟨s2, A, c', t.sid, t.fs, t.Af, t.cf, t.rs, t.Ar, t.cr⟩ o ∧ Mt g T w'' w') := fun {A c' B w''} hq hO hB hc => shape_ok g D T O t o s2 A c' w'' HD.out.fut (hO.more hB) hc (by have := hq.below.size; omega)
    refine wp_region_held_drew (S := (fun w' => w'.cell? ⟨D, 0, none⟩ = some (.pointer (some ⟨T, 0, none⟩)) ∧ w'.cell? ⟨D, 1, none⟩ = some (.pointer (some ⟨O, 0, none⟩)) ∧ w'.cell? ⟨O, 5, none⟩ = some (.string o.col) ∧ w'.cell? ⟨O, 6, none⟩ = some (.string o.name))) (by kernel_rfl) (by (try dsimp only); (first | exact ⟨hS1, hS2⟩ | exact ⟨d0, d1, o5, o6⟩ | exact ⟨(At.z2 (HD.out.d.fut (w' := _)).at0).1, (At.z2 (HD.out.d.fut (w' := _)).at0).2, (At.zOp (HD.out.op.fut (w' := _)).at0).2.2.2.2.2.1, (At.zOp (HD.out.op.fut (w' := _)).at0).2.2.2.2.2.2.1⟩)) (fun hHeld => ?_)
    refine wT 0 93 (by assumption) ?_
    refine wT 1 94 (by assumption) ?_
    refine wT 8 101 (by assumption) ?_
    refine wT 15 108 (by assumption) ?_
    refine wT 2 95 (by assumption) ?_
    refine wT 9 102 (by assumption) ?_
    refine wT 16 109 (by assumption) ?_
    refine wT 3 96 (by assumption) ?_
    refine wT 10 103 (by assumption) ?_
    refine wT 17 110 (by assumption) ?_
    refine wT 4 97 (by assumption) ?_
    refine wT 11 104 (by assumption) ?_
    refine wT 18 111 (by assumption) ?_
    refine wT 5 98 (by assumption) ?_
    refine wT 12 105 (by assumption) ?_
    refine wT 19 112 (by assumption) ?_
    refine wT 6 99 (by assumption) ?_
    refine wT 13 106 (by assumption) ?_
    refine wT 20 113 (by assumption) ?_
    refine wT 14 107 (by assumption) ?_
    refine wT 21 114 (by assumption) ?_
    refine wpAnyH_ready (rs := [7]) (by kernel_rfl) (by simp) ?_
    refine AllReadyH.cons (o := ⟨some 100, _, _, _, _, _⟩) rfl (fun K hK => ?_) AllReadyH.nil
    go_simp
    refine hK.out _ _ (by (try dsimp only); (first | exact ⟨hS1, hS2⟩ | exact ⟨d0, d1, o5, o6⟩ | exact ⟨(At.z2 (HD.out.d.fut (w' := _)).at0).1, (At.z2 (HD.out.d.fut (w' := _)).at0).2, (At.zOp (HD.out.op.fut (w' := _)).at0).2.2.2.2.2.1, (At.zOp (HD.out.op.fut (w' := _)).at0).2.2.2.2.2.2.1⟩)) (fun hHeld => ?_)
    clear hK K
    (try simp only [Act.put, List.setIfInBounds_toArray, List.set_cons_zero, List.set_cons_succ])
    refine wpAnyH_ready (rs := [22]) (by kernel_rfl) (by simp) ?_
    refine AllReadyH.cons (o := ⟨some 115, _, _, _, _, _⟩) rfl (fun K hK => ?_) AllReadyH.nil
    obtain ⟨hS1, hS2⟩ := hHeld
    go_simp
    (go_at_call 93; (with_reducible refine (DR.out _ inferInstance).mono ?_); rintro e w5 ⟨A5, c5, rfl, hc5, ho5, hs5⟩; have HC5 := hide hc5; have HO5 := hide ho5; clear hc5 ho5)
    refine hK.out _ _ (by (try dsimp only); (first | exact ⟨(At.z2 (HD.out.d.fut (w' := w5)).at0).1, (At.z2 (HD.out.d.fut (w' := w5)).at0).2, (At.zOp (HD.out.op.fut (w' := w5)).at0).2.2.2.2.2.1, (At.zOp (HD.out.op.fut (w' := w5)).at0).2.2.2.2.2.2.1⟩)) (fun hHeld => ?_)
    clear hK K
    (try simp only [Act.put, List.setIfInBounds_toArray, List.set_cons_zero, List.set_cons_succ])
    refine wT 23 116 (by assumption) ?_
    refine wT 24 117 (by assumption) ?_
    refine wpAnyH_ready (rs := [25]) (by kernel_rfl) (by simp) ?_
    refine AllReadyH.cons (o := ⟨some 118, _, _, _, _, _⟩) rfl (fun K hK => ?_) AllReadyH.nil
    obtain ⟨hS1, hS2⟩ := hHeld
    go_simp
    (go_at_call 90; (with_reducible refine (SO.out inferInstance HO5.out (Nat.le_trans hg (fut w _).size) HC5.out).mono ?_); rintro e w6 ⟨rfl, hd6, hm6⟩; have HD6 := hide hd6; have HM6 := hide hm6; clear hd6 hm6)
    refine hK.out _ _ (by (try dsimp only); (first | exact ⟨(At.z2 (HD6.out.d.fut (w' := w6)).at0).1, (At.z2 (HD6.out.d.fut (w' := w6)).at0).2, (At.zOp (HD6.out.op.fut (w' := w6)).at0).2.2.2.2.2.1, (At.zOp (HD6.out.op.fut (w' := w6)).at0).2.2.2.2.2.2.1⟩)) (fun hHeld => ?_)
    clear hK K
    (try simp only [Act.put, List.setIfInBounds_toArray, List.set_cons_zero, List.set_cons_succ])
    refine wpAnyH_done (by kernel_rfl) ?_ _
    clear d0 d1 ld t0 t1 t2 t3 t4 t5 lt_ ft_ o0 o1 o2 o3 o4 o5 o6 o7 o8 o9 o10 o11 o12 o13 o14 o15 lo
    go_wp2_with fail
    go_end0
    rw [HE.out]
    exact ⟨(by first | exact (Mt.step hg (fut w w5)).trans HM6.out | exact ((Mt.step hg (fut w w5)).trans HM6.out).drew), rfl, ⟨s2, A5, c5, t.sid, t.fs, t.Af, t.cf, t.rs, t.Ar, t.cr⟩, rfl, HD6.out.tb.fut, HD6.out.own.r.fut⟩
  · have HE : Hid (R = .error 5) := by show _ = _; rw [← HR.out, if_pos hz]
    have SN : Hid (∀ {u0 u1 u2 : Value} (w'' : World) (_ : Fut w w''), Calls Tryz.prog 90 #[.pointer (some ⟨D, 0, none⟩), .agg #[u0, u1, u2], .int .i64 x2] w'' fun e w' => e = .panicked [{ v := faultM 5, recovered := false }] ∧ Step w'' w') := fun {u0 u1 u2} w'' hq => shape_no g D T O t o (.agg #[u0, u1, u2]) x2 hz u0 u1 u2 rfl w'' HD.out.fut
    refine wp_region_held_drew (S := (fun w' => w'.cell? ⟨D, 0, none⟩ = some (.pointer (some ⟨T, 0, none⟩)) ∧ w'.cell? ⟨D, 1, none⟩ = some (.pointer (some ⟨O, 0, none⟩)) ∧ w'.cell? ⟨O, 5, none⟩ = some (.string o.col) ∧ w'.cell? ⟨O, 6, none⟩ = some (.string o.name))) (by kernel_rfl) (by (try dsimp only); (first | exact ⟨hS1, hS2⟩ | exact ⟨d0, d1, o5, o6⟩ | exact ⟨(At.z2 (HD.out.d.fut (w' := _)).at0).1, (At.z2 (HD.out.d.fut (w' := _)).at0).2, (At.zOp (HD.out.op.fut (w' := _)).at0).2.2.2.2.2.1, (At.zOp (HD.out.op.fut (w' := _)).at0).2.2.2.2.2.2.1⟩)) (fun hHeld => ?_)
    refine wT 0 93 (by assumption) ?_
    refine wT 1 94 (by assumption) ?_
    refine wT 8 101 (by assumption) ?_
    refine wT 15 108 (by assumption) ?_
    refine wT 2 95 (by assumption) ?_
    refine wT 9 102 (by assumption) ?_
    refine wT 16 109 (by assumption) ?_
    refine wT 3 96 (by assumption) ?_
    refine wT 10 103 (by assumption) ?_
    refine wT 17 110 (by assumption) ?_
    refine wT 4 97 (by assumption) ?_
    refine wT 11 104 (by assumption) ?_
    refine wT 18 111 (by assumption) ?_
    refine wT 5 98 (by assumption) ?_
    refine wT 12 105 (by assumption) ?_
    refine wT 19 112 (by assumption) ?_
    refine wT 6 99 (by assumption) ?_
    refine wT 13 106 (by assumption) ?_
    refine wT 20 113 (by assumption) ?_
    refine wT 14 107 (by assumption) ?_
    refine wT 21 114 (by assumption) ?_
    refine wpAnyH_ready (rs := [7]) (by kernel_rfl) (by simp) ?_
    refine AllReadyH.cons (o := ⟨some 100, _, _, _, _, _⟩) rfl (fun K hK => ?_) AllReadyH.nil
    go_simp
    refine hK.out _ _ (by (try dsimp only); (first | exact ⟨hS1, hS2⟩ | exact ⟨d0, d1, o5, o6⟩ | exact ⟨(At.z2 (HD.out.d.fut (w' := _)).at0).1, (At.z2 (HD.out.d.fut (w' := _)).at0).2, (At.zOp (HD.out.op.fut (w' := _)).at0).2.2.2.2.2.1, (At.zOp (HD.out.op.fut (w' := _)).at0).2.2.2.2.2.2.1⟩)) (fun hHeld => ?_)
    clear hK K
    (try simp only [Act.put, List.setIfInBounds_toArray, List.set_cons_zero, List.set_cons_succ])
    refine wpAnyH_ready (rs := [22]) (by kernel_rfl) (by simp) ?_
    refine AllReadyH.cons (o := ⟨some 115, _, _, _, _, _⟩) rfl (fun K hK => ?_) AllReadyH.nil
    obtain ⟨hS1, hS2⟩ := hHeld
    go_simp
    (go_at_call 93; (with_reducible refine (DR.out _ inferInstance).mono ?_); rintro e w5 ⟨A5, c5, rfl, hc5, ho5, hs5⟩; have HC5 := hide hc5; have HO5 := hide ho5; clear hc5 ho5)
    refine hK.out _ _ (by (try dsimp only); (first | exact ⟨(At.z2 (HD.out.d.fut (w' := w5)).at0).1, (At.z2 (HD.out.d.fut (w' := w5)).at0).2, (At.zOp (HD.out.op.fut (w' := w5)).at0).2.2.2.2.2.1, (At.zOp (HD.out.op.fut (w' := w5)).at0).2.2.2.2.2.2.1⟩)) (fun hHeld => ?_)
    clear hK K
    (try simp only [Act.put, List.setIfInBounds_toArray, List.set_cons_zero, List.set_cons_succ])
    refine wT 23 116 (by assumption) ?_
    refine wT 24 117 (by assumption) ?_
    refine wpAnyH_ready (rs := [25]) (by kernel_rfl) (by simp) ?_
    refine AllReadyH.cons (o := ⟨some 118, _, _, _, _, _⟩) rfl (fun K hK => ?_) AllReadyH.nil
    obtain ⟨hS1, hS2⟩ := hHeld
    go_simp
    (go_at_call 90; (with_reducible refine (SN.out _ inferInstance).mono ?_); rintro e w6 ⟨rfl, hs6⟩)
    exact ⟨rfl, by rw [HE.out]; exact ⟨Mt.step hg (fut w _), rfl⟩⟩
set_option maxRecDepth 100000 in
set_option maxHeartbeats 16000000 in
theorem run_addc {w1 : World} (g D T O : Nat) (t : TbA) (o : OpA) (w : World) (h : Doer w g D T O t o) (ho : OpIn w1 o) [_f1 : Fut w1 w] (hf : TbFine t) (hg : g ≤ w.heap.size)  (hn1 : 1 ≤ t.s.cols.length) (hn12 : t.s.cols.length ≤ 12) (hn4 : t.rs.length ≤ 4096) (hrow : ∀ r ∈ t.rs, r.vs.length = t.s.cols.length) (hk : o.kind = 4) :
    Calls Tryz.prog 44 #[.pointer (some ⟨D, 0, none⟩)] w fun e w' => RunR g T w (addcP t.tb o.op) e w' := by
  have hin := h.own.r.tin hf
  have HSC := hide hin.sch
  have HD := hide h
  have HROW := hide hrow
  have hnm := ho.name
  obtain ⟨s2, hs2⟩ : ∃ s2, (addR t.s o.name o.ck).1 = s2 := ⟨_, rfl⟩
  obtain ⟨x2, hx2⟩ : ∃ x2, (addR t.s o.name o.ck).2 = x2 := ⟨_, rfl⟩
  have DR : Hid (∀ (w' : World), Fut w w' → Calls Tryz.prog 91 #[.agg #[.int .i64 t.s.id, .slice t.As t.s.cols.length t.cs, .int .i64 t.s.next], .string o.name, .int .i64 o.ck] w' fun e w'' => ∃ (A' : Option Addr) (c' : Nat), e = .returned (.tuple #[.agg #[.int .i64 s2.id, .slice A' s2.cols.length c', .int .i64 s2.next], .int .i64 x2]) ∧ s2.cols.length ≤ c' ∧ Own w'' w'.heap.size 90 3 (.slice A' s2.cols.length c') (s2.cols.map Col.cells) ∧ Step w' w'') := fun w' hq => by
    have := add_any t.s t.As t.cs o.name o.ck w' (HSC.out.below hq.below) hnm
    unfold SchRes Sch.val at this
    rw [hs2, hx2] at this
    exact this.mono fun e w'' ⟨A', c', h1, h2, _, h3, h4⟩ => ⟨A', c', h1, h2, h3, ⟨h4⟩⟩
  obtain ⟨R, hR⟩ : ∃ R, addcP t.tb o.op = R := ⟨_, rfl⟩
  have HR : Hid ((if x2 ≠ 0 then .error 5 else .ok (⟨s2, t.sid, t.fs, (t.rs.map RowA.vs).map (· ++ [Val.zero])⟩ : Tb)) = R) := by
    show _ = _
    rw [← hR, ← hs2, ← hx2]
    exact (addcP_eq t.tb o.op).symm
  rw [hR]
  clear hR hs2 hx2 h hin
  obtain ⟨d0, d1⟩ := At.z2 (HD.out.d.fut (w' := w)).at0
  have ld := (HD.out.d.fut (w' := w)).lt
  obtain ⟨t0, t1, t2, t3, t4, t5⟩ := At.z6 (HD.out.tb.fut (w' := w)).at0
  have lt_ := (HD.out.tb.fut (w' := w)).lt
  have ft_ := (HD.out.tb.fut (w' := w)).free
  obtain ⟨o0, o1, o2, o3, o4, o5, o6, o7, o8, o9, o10, o11, o12, o13, o14, o15⟩ := At.zOp (HD.out.op.fut (w' := w)).at0
  have lo := (HD.out.op.fut (w' := w)).lt
  unfold TbA.cells at *
  rw [hk] at o0
  clear hk
  go_enter Tryz.func44, Tryz.ntmps44
  go_upto_region 9 with fail
  by_cases hz : x2 = 0
  · subst hz
    have HE : Hid (R = .ok (⟨s2, t.sid, t.fs, (t.rs.map RowA.vs).map (· ++ [Val.zero])⟩ : Tb)) := by show _ = _; rw [← HR.out, if_neg (by simp)]
    have SO : Hid (∀ {A : Option Addr} {c' B : Nat} {w'' : World} (_ : Fut w w'') (_ : Own w'' B 90 3 (.slice A s2.cols.length c') (s2.cols.map Col.cells)) (_ : g ≤ B) (_ : s2.cols.length ≤ c'), Calls Tryz.prog 90 #[.pointer (some ⟨D, 0, none⟩), .agg #[.int .i64 s2.id, .slice A s2.cols.length c', .int .i64 s2.next], .int .i64 0] w'' fun e w' => e = .returned (.tuple #[]) ∧ Doer w' g D T O ⟨s2, A, c', t.sid, t.fs, t.Af, t.cf, t.rs, t.Ar, t.cr⟩ o ∧ Mt g T w'' w') := fun {A c' B w''} hq hO hB hc => shape_ok g D T O t o s2 A c' w'' HD.out.fut (hO.more hB) hc (by have := hq.below.size; omega)
    refine wp_region_held_drew (S := (fun w' => w'.cell? ⟨D, 0, none⟩ = some (.pointer (some ⟨T, 0, none⟩)) ∧ w'.cell? ⟨D, 1, none⟩ = some (.pointer (some ⟨O, 0, none⟩)) ∧ w'.cell? ⟨O, 6, none⟩ = some (.string o.name) ∧ w'.cell? ⟨O, 7, none⟩ = some (.int .i64 o.ck))) (by kernel_rfl) (by (try dsimp only); (first | exact ⟨hS1, hS2⟩ | exact ⟨d0, d1, o6, o7⟩ | exact ⟨(At.z2 (HD.out.d.fut (w' := _)).at0).1, (At.z2 (HD.out.d.fut (w' := _)).at0).2, (At.zOp (HD.out.op.fut (w' := _)).at0).2.2.2.2.2.2.1, (At.zOp (HD.out.op.fut (w' := _)).at0).2.2.2.2.2.2.2.1⟩)) (fun hHeld => ?_)
    refine wT 0 25 (by assumption) ?_
    refine wT 1 26 (by assumption) ?_
    refine wT 8 33 (by assumption) ?_
    refine wT 15 40 (by assumption) ?_
    refine wT 2 27 (by assumption) ?_
    refine wT 9 34 (by assumption) ?_
    refine wT 16 41 (by assumption) ?_
    refine wT 3 28 (by assumption) ?_
    refine wT 10 35 (by assumption) ?_
    refine wT 17 42 (by assumption) ?_
    refine wT 4 29 (by assumption) ?_
    refine wT 11 36 (by assumption) ?_
    refine wT 18 43 (by assumption) ?_
    refine wT 5 30 (by assumption) ?_
    refine wT 12 37 (by assumption) ?_
    refine wT 19 44 (by assumption) ?_
    refine wT 6 31 (by assumption) ?_
    refine wT 13 38 (by assumption) ?_
    refine wT 20 45 (by assumption) ?_
    refine wT 14 39 (by assumption) ?_
    refine wT 21 46 (by assumption) ?_
    refine wpAnyH_ready (rs := [7]) (by kernel_rfl) (by simp) ?_
    refine AllReadyH.cons (o := ⟨some 32, _, _, _, _, _⟩) rfl (fun K hK => ?_) AllReadyH.nil
    go_simp
    refine hK.out _ _ (by (try dsimp only); (first | exact ⟨hS1, hS2⟩ | exact ⟨d0, d1, o6, o7⟩ | exact ⟨(At.z2 (HD.out.d.fut (w' := _)).at0).1, (At.z2 (HD.out.d.fut (w' := _)).at0).2, (At.zOp (HD.out.op.fut (w' := _)).at0).2.2.2.2.2.2.1, (At.zOp (HD.out.op.fut (w' := _)).at0).2.2.2.2.2.2.2.1⟩)) (fun hHeld => ?_)
    clear hK K
    (try simp only [Act.put, List.setIfInBounds_toArray, List.set_cons_zero, List.set_cons_succ])
    refine wpAnyH_ready (rs := [22]) (by kernel_rfl) (by simp) ?_
    refine AllReadyH.cons (o := ⟨some 47, _, _, _, _, _⟩) rfl (fun K hK => ?_) AllReadyH.nil
    obtain ⟨hS1, hS2⟩ := hHeld
    go_simp
    (go_at_call 91; (with_reducible refine (DR.out _ inferInstance).mono ?_); rintro e w5 ⟨A5, c5, rfl, hc5, ho5, hs5⟩; have HC5 := hide hc5; have HO5 := hide ho5; clear hc5 ho5)
    refine hK.out _ _ (by (try dsimp only); (first | exact ⟨(At.z2 (HD.out.d.fut (w' := w5)).at0).1, (At.z2 (HD.out.d.fut (w' := w5)).at0).2, (At.zOp (HD.out.op.fut (w' := w5)).at0).2.2.2.2.2.2.1, (At.zOp (HD.out.op.fut (w' := w5)).at0).2.2.2.2.2.2.2.1⟩)) (fun hHeld => ?_)
    clear hK K
    (try simp only [Act.put, List.setIfInBounds_toArray, List.set_cons_zero, List.set_cons_succ])
    refine wT 23 48 (by assumption) ?_
    refine wT 24 49 (by assumption) ?_
    refine wpAnyH_ready (rs := [25]) (by kernel_rfl) (by simp) ?_
    refine AllReadyH.cons (o := ⟨some 50, _, _, _, _, _⟩) rfl (fun K hK => ?_) AllReadyH.nil
    obtain ⟨hS1, hS2⟩ := hHeld
    go_simp
    (go_at_call 90; (with_reducible refine (SO.out inferInstance HO5.out (Nat.le_trans hg (fut w _).size) HC5.out).mono ?_); rintro e w6 ⟨rfl, hd6, hm6⟩; have HD6 := hide hd6; have HM6 := hide hm6; clear hd6 hm6)
    refine hK.out _ _ (by (try dsimp only); (first | exact ⟨(At.z2 (HD6.out.d.fut (w' := w6)).at0).1, (At.z2 (HD6.out.d.fut (w' := w6)).at0).2, (At.zOp (HD6.out.op.fut (w' := w6)).at0).2.2.2.2.2.2.1, (At.zOp (HD6.out.op.fut (w' := w6)).at0).2.2.2.2.2.2.2.1⟩)) (fun hHeld => ?_)
    clear hK K
    (try simp only [Act.put, List.setIfInBounds_toArray, List.set_cons_zero, List.set_cons_succ])
    refine wpAnyH_done (by kernel_rfl) ?_ _
    clear d0 d1 ld t0 t1 t2 t3 t4 t5 lt_ ft_ o0 o1 o2 o3 o4 o5 o6 o7 o8 o9 o10 o11 o12 o13 o14 o15 lo
    obtain ⟨x6, hx6⟩ : ∃ x : World, x = w6 := ⟨_, rfl⟩
    rw [← hx6] at HD6 HM6 ⊢
    clear hx6
    have HMT0 : Hid (Mt g T w x6) := (Mt.step hg (fut w w5)).trans HM6.out
    have HSZ0 : Hid (w.heap.size ≤ x6.heap.size) := by show _ ≤ _; have := HM6.out.below.size; have := (fut w w5).size; omega
    obtain ⟨d0, d1⟩ := At.z2 (HD6.out.d.fut (w' := x6)).at0
    have ld := (HD6.out.d.fut (w' := x6)).lt
    obtain ⟨t0, t1, t2, t3, t4, t5⟩ := At.z6 (HD6.out.tb.fut (w' := x6)).at0
    have lt_ := (HD6.out.tb.fut (w' := x6)).lt
    have ft_ := (HD6.out.tb.fut (w' := x6)).free
    obtain ⟨o0, o1, o2, o3, o4, o5, o6, o7, o8, o9, o10, o11, o12, o13, o14, o15⟩ := At.zOp (HD6.out.op.fut (w' := x6)).at0
    have lo := (HD6.out.op.fut (w' := x6)).lt
    unfold TbA.cells at *
    go_wp2_with fail
    clear d0 d1 ld t0 t1 t2 t3 t4 t5 lt_ ft_ o0 o1 o2 o3 o4 o5 o6 o7 o8 o9 o10 o11 o12 o13 o14 o15 lo
    go_loopw [2, 59] (fun _ i wx => ∃ (k : Nat) (rs : List RowA), k ≤ t.rs.length ∧ i = .int .i64 k ∧ Hid (rs.map RowA.vs = mapTo (· ++ [Val.zero]) k (t.rs.map RowA.vs)) ∧ Hid (rs.length = t.rs.length) ∧ Doer wx g D T O ((⟨s2, A5, c5, t.sid, t.fs, t.Af, t.cf, t.rs, t.Ar, t.cr⟩ : TbA).with_ rs) o ∧ Mt g T w wx ∧ w.heap.size ≤ wx.heap.size) (fun _ i _ => t.rs.length - (intOf i).toNat)
    case atStart => exact ⟨0, t.rs, Nat.zero_le _, rfl, (mapTo_zero _ _).symm, rfl, HD6.out.fut, (by first | exact HMT0.out | exact HMT0.out.drew), HSZ0.out⟩
    case round =>
      obtain ⟨k, rs, hk, rfl, HVS, HRL, hdo, hmt, hsz⟩ := hrel
      have HDO := hide hdo; have HMT := hide hmt
      clear hdo hmt
      obtain ⟨wo, rfl⟩ : ∃ x : World, x = wr := ⟨_, rfl⟩
      by_cases hlt : k < t.rs.length
      · obtain ⟨r, hr⟩ : ∃ r, rs[k]? = some r := ⟨_, List.getElem?_eq_getElem (by rw [HRL.out]; exact hlt)⟩
        have hrl : r.vs.length = t.s.cols.length := by
          have h1 := congrArg (fun q => q[k]?) HVS.out
          simp only [mapTo_get, List.getElem?_map, hr, Option.map_some] at h1
          obtain ⟨r0, hr0⟩ : ∃ r0, t.rs[k]? = some r0 := ⟨_, List.getElem?_eq_getElem hlt⟩
          rw [hr0] at h1
          simp only [Option.map_some, Nat.lt_irrefl, if_false] at h1
          injection h1 with h1
          rw [h1]
          exact HROW.out r0 (List.mem_of_getElem? hr0)
        have hel : (r.vs ++ [Val.zero]).length = r.vs.length + 1 := by simp
        have hgwo : g ≤ wo.heap.size := by omega
        obtain ⟨gR, hAr, hgR, hltR, hcell, hfzR, _, _⟩ := HDO.out.own.rows.row hr
        have HOWN := hide (HDO.out.own.rows.rows.rows r (List.mem_of_getElem? hr))
        obtain ⟨gV, cur, hAv, _, hgV, hbV, _⟩ := HOWN.out.blk (by simp; omega)
        obtain ⟨g2, curR, e2, _, _, hbR, _⟩ := HDO.out.own.rows.rows.out.blk (by show 0 < (rs.map RowA.cells).length; rw [List.length_map, HRL.out]; omega)
        have e3 : t.Ar = some ⟨gR, 0, none⟩ := hAr
        have e4 : t.Ar = some ⟨g2, 0, none⟩ := e2
        rw [e3] at e4
        injection e4 with e4
        injection e4 with e4
        subst e4
        have HRB := hide hbR
        have hDV : D ≠ gV := HDO.out.d.ne_ hbV (by decide)
        have hTV : T ≠ gV := HDO.out.tb.ne_ hbV (by decide)
        have hRV : gR ≠ gV := hbR.ne_ hbV (by decide)
        have hDR : D ≠ gR := HDO.out.d.ne_ hbR (by decide)
        have hTR : T ≠ gR := HDO.out.tb.ne_ hbR (by decide)
        have hkl : (k : Int) < (t.rs.length : Int) := by omega
        have hkr : (k : Int) < (rs.length : Int) := by rw [HRL.out]; exact hkl
        have hkz : (0 : Int) ≤ (k : Int) := by omega
        have hr12 : r.vs.length ≤ 12 := by omega
        clear hrl hbV hbR e3 e2
        obtain ⟨d0, d1⟩ := At.z2 (HDO.out.d.fut (w' := wo)).at0
        have ld := (HDO.out.d.fut (w' := wo)).lt
        obtain ⟨t0, t1, t2, t3, t4, t5⟩ := At.z6 (HDO.out.tb.fut (w' := wo)).at0
        have lt_ := (HDO.out.tb.fut (w' := wo)).lt
        have ft_ := (HDO.out.tb.fut (w' := wo)).free
        obtain ⟨o0, o1, o2, o3, o4, o5, o6, o7, o8, o9, o10, o11, o12, o13, o14, o15⟩ := At.zOp (HDO.out.op.fut (w' := wo)).at0
        have lo := (HDO.out.op.fut (w' := wo)).lt
        unfold TbA.cells TbA.with_ at *
        simp only at t0 t1 t2 t3 t4 t5
        have hAr2 : t.Ar = some ⟨gR, 0, none⟩ := hAr
        rw [hAr2] at t5
        go_upto_region 13 with fail
        refine wp_region_held_drew (S := (fun w' => True ∧ ∀ b o, b < wo.heap.size → b ≠ gV → b ≠ gR → w'.cell? ⟨b, o, none⟩ = wo.cell? ⟨b, o, none⟩)) (by kernel_rfl) (by (try dsimp only); (first | exact ⟨hS1, hS2⟩ | exact ⟨trivial, fun b o h _ _ => rfl⟩ | exact ⟨trivial, fun b o h _ _ => (fut wo _).cell (p := ⟨b, o, none⟩) h⟩)) (fun hHeld => ?_)
        refine wT 0 62 (by assumption) ?_
        refine wT 7 69 (by assumption) ?_
        refine wT 8 70 (by assumption) ?_
        refine wT 15 77 (by assumption) ?_
        refine wT 19 81 (by assumption) ?_
        refine wT 1 63 (by assumption) ?_
        refine wT 9 71 (by assumption) ?_
        refine wT 2 64 (by assumption) ?_
        refine wT 10 72 (by assumption) ?_
        refine wT 3 65 (by assumption) ?_
        refine wT 11 73 (by assumption) ?_
        refine wT 4 66 (by assumption) ?_
        refine wT 12 74 (by assumption) ?_
        refine wT 5 67 (by assumption) ?_
        refine wT 13 75 (by assumption) ?_
        refine wT 6 68 (by assumption) ?_
        refine wT 14 76 (by assumption) ?_
        refine wT 16 78 (by assumption) ?_
        refine wT 17 79 (by assumption) ?_
        refine wpAnyH_ready (rs := [18, 20]) (by kernel_rfl) (by simp) ?_
        refine AllReadyH.cons (o := ⟨some 80, _, _, _, _, _⟩) rfl (fun K hK => ?_) (AllReadyH.cons (o := ⟨some 82, _, _, _, _, _⟩) rfl (fun K hK => ?_) AllReadyH.nil)
        · go_simp
          refine hK.out _ _ (by (try dsimp only); (first | exact ⟨hS1, hS2⟩ | exact ⟨trivial, fun b o h _ _ => rfl⟩ | exact ⟨trivial, fun b o h _ _ => (fut wo _).cell (p := ⟨b, o, none⟩) h⟩)) (fun hHeld => ?_)
          clear hK K
          (try simp only [Act.put, List.setIfInBounds_toArray, List.set_cons_zero, List.set_cons_succ])
          refine wpAnyH_ready (rs := [20]) (by kernel_rfl) (by simp) ?_
          refine AllReadyH.cons (o := ⟨some 82, _, _, _, _, _⟩) rfl (fun K hK => ?_) AllReadyH.nil
          go_simp
          refine hK.out _ _ (by (try dsimp only); (first | exact ⟨hS1, hS2⟩ | exact ⟨trivial, fun b o h _ _ => rfl⟩ | exact ⟨trivial, fun b o h _ _ => (fut wo _).cell (p := ⟨b, o, none⟩) h⟩)) (fun hHeld => ?_)
          clear hK K
          (try simp only [Act.put, List.setIfInBounds_toArray, List.set_cons_zero, List.set_cons_succ])
          refine wpAnyH_ready (rs := [21]) (by kernel_rfl) (by simp) ?_
          refine AllReadyH.cons (o := ⟨some 83, _, _, _, _, _⟩) rfl (fun K hK => ?_) AllReadyH.nil
          have HNEW : Hid (SlAt ((wo.alloc (.cells #[.int .i64 0, .int .i64 0, .bool false, .string ⟨#[]⟩] 36)).drew) ((wo.alloc (.cells #[.int .i64 0, .int .i64 0, .bool false, .string ⟨#[]⟩] 36)).drew).heap.size 4 (some ⟨wo.heap.size, 0, none⟩) [[.int .i64 0, .int .i64 0, .bool false, .string ⟨#[]⟩]]) := SlAt.one wo.drew 4 [.int .i64 0, .int .i64 0, .bool false, .string ⟨#[]⟩] 36
          have hown0 := HOWN.out.fut (w' := ((wo.alloc (.cells #[.int .i64 0, .int .i64 0, .bool false, .string ⟨#[]⟩] 36)).drew))
          rw [hAv] at hown0
          refine step_append_slA rfl (.tmp 80) (.tmp 82) 65 rfl eiV4 (base := g) (v := .slice (some ⟨gV, 0, none⟩) r.vs.length r.cap) (xs := r.vs.map Val.cells) rfl hown0 (vals_fit _) (A := some ⟨wo.heap.size, 0, none⟩) (c := 1) (n := 1) (ys := [[.int .i64 0, .int .i64 0, .bool false, .string ⟨#[]⟩]]) rfl rfl (by simp) HNEW.out (vals_fit [Val.zero]) (by rw [List.length_map]; show (r.vs.length + 1) * 40 ≤ _; omega) (Nat.le_trans hgwo (fut wo _).size) (N := r.vs.length + 1) (by rw [List.length_map]; rfl) ?_
          clear hown0
          intro A7 c7 w7 hq1 hq2 hown7 hgr7 hat7
          have hs7 := Doer.setRow (r' := ⟨A7, c7, r.vs ++ [Val.zero]⟩) (HDO.out.fut (w' := ((wo.alloc (.cells #[.int .i64 0, .int .i64 0, .bool false, .string ⟨#[]⟩] 36)).drew))) hr (Nat.le_trans hgwo (fut wo _).size) (by rw [hAv]; exact hgr7) (by show Own _ _ _ _ (.slice A7 (r.vs ++ [Val.zero]).length c7) _; rw [hel, List.map_append]; exact hown7) (by rw [← ob_eq A7 (r.vs.length + 1) c7, hAv]; rcases hat7 with h4 | h4; (left; exact h4); (right; exact ⟨_, h4, Nat.le_refl _⟩)) hAr
          rw [hel] at hs7
          have HS7 := hide hs7
          have HCE : Hid (∀ b o, b < wo.heap.size → b ≠ gV → w7.cell? ⟨b, o, none⟩ = wo.cell? ⟨b, o, none⟩) := fun b o h hn => (World.cell?_of_block (w := ((wo.alloc (.cells #[.int .i64 0, .int .i64 0, .bool false, .string ⟨#[]⟩] 36)).drew)) (hgr7.block b (Nat.lt_of_lt_of_le h (fut wo _).size) (by intro hh; injection hh with hh; exact hn hh))).trans ((fut wo ((wo.alloc (.cells #[.int .i64 0, .int .i64 0, .bool false, .string ⟨#[]⟩] 36)).drew)).cell (p := ⟨b, o, none⟩) h)
          have HZ7 : Hid (w.heap.size ≤ w7.heap.size) := Nat.le_trans hsz (Nat.le_trans (fut wo ((wo.alloc (.cells #[.int .i64 0, .int .i64 0, .bool false, .string ⟨#[]⟩] 36)).drew)).size hgr7.size)
          have HRB7 := hide ((HRB.out.fut (w' := ((wo.alloc (.cells #[.int .i64 0, .int .i64 0, .bool false, .string ⟨#[]⟩] 36)).drew))).grown hgr7 (by intro hh; injection hh with hh; exact hRV hh))
          have c7_ : w7.cell? ⟨gR, k, none⟩ = some (.slice r.A r.vs.length r.cap) := by rw [HCE.out gR k hltR hRV]; exact hcell
          have lr7 := HRB7.out.lt
          have fr7 := HRB7.out.free
          have HCF : Hid (∀ b o', b < wo.heap.size → b ≠ gV → b ≠ gR → (w7.setCell ⟨gR, k, none⟩ (.slice A7 (r.vs.length + 1) c7)).cell? ⟨b, o', none⟩ = wo.cell? ⟨b, o', none⟩) := fun b o' h h1 h2 => (World.cell?_of_block (w := w7) (Below.heap_setCell w7 ⟨gR, k, none⟩ _ b h2)).trans (HCE.out b o' h h1)
          clear hown7 hgr7 hs7
          refine hK.out _ _ (by (try dsimp only); (exact ⟨trivial, fun b o h h1 _ => HCE.out b o h h1⟩)) (fun hHeld => ?_)
          clear hK K
          (try simp only [Act.put, List.setIfInBounds_toArray, List.set_cons_zero, List.set_cons_succ])
          refine wT 22 84 (by assumption) ?_
          refine wT 23 85 (by assumption) ?_
          refine wpAnyH_ready (rs := [24]) (by kernel_rfl) (by simp) ?_
          refine AllReadyH.cons (o := ⟨none, _, _, _, _, _⟩) rfl (fun K hK => ?_) AllReadyH.nil
          go_simp
          refine hK.out _ _ (by (try dsimp only); (first | with_reducible exact ⟨trivial, fun b o h h1 h2 => HCF.out b o h h1 h2⟩ | exact ⟨trivial, fun b o h h1 h2 => HCF.out b o h h1 h2⟩)) (fun hHeld => ?_)
          clear hK K
          (try simp only [Act.put, List.setIfInBounds_toArray, List.set_cons_zero, List.set_cons_succ])
          refine wpAnyH_done (by kernel_rfl) ?_ _
          obtain ⟨Y, hY⟩ : ∃ y : World, y = w7.setCell ⟨gR, k, none⟩ (.slice A7 (r.vs.length + 1) c7) := ⟨_, rfl⟩
          have HDY : Hid (Doer Y g D T O ((⟨s2, A5, c5, t.sid, t.fs, t.Af, t.cf, t.rs, t.Ar, t.cr⟩ : TbA).with_ (rs.set k ⟨A7, c7, r.vs ++ [Val.zero]⟩)) o) := by rw [hY]; exact HS7.out.1
          have HMY : Hid (Mt g T w Y) := by rw [hY]; exact (HMT.out.trans (Mt.step hgwo (fut wo ((wo.alloc (.cells #[.int .i64 0, .int .i64 0, .bool false, .string ⟨#[]⟩] 36)).drew)))).trans HS7.out.2
          have HZY : Hid (w.heap.size ≤ Y.heap.size) := by
            show _ ≤ _
            rw [hY]
            have := (grown_setCell w7 gR k (.slice A7 (r.vs.length + 1) c7)).size
            have h2 := HZ7.out
            show _ ≤ (w7.setCell ⟨gR, k, none⟩ (.slice A7 (r.vs.length + 1) c7)).heap.size
            omega
          have HVY : Hid ((rs.set k ⟨A7, c7, r.vs ++ [Val.zero]⟩).map RowA.vs = mapTo (· ++ [Val.zero]) (k + 1) (t.rs.map RowA.vs)) := by
            show _ = _
            rw [← mapTo_step, ← HVS.out]
            exact map_set_modify (f := fun vs => vs ++ [Val.zero]) hr
          have HLY : Hid ((rs.set k ⟨A7, c7, r.vs ++ [Val.zero]⟩).length = t.rs.length) := by show _ = _; rw [List.length_set]; exact HRL.out
          rw [← hY]
          clear hY HS7 HCE HCF d0 d1 ld t0 t1 t2 t3 t4 t5 lt_ ft_ o0 o1 o2 o3 o4 o5 o6 o7 o8 o9 o10 o11 o12 o13 o14 o15 lo hcell c7_ lr7 fr7 hr
          go_wp2_with fail
          go_roundw
          case rel => exact ⟨k + 1, by omega, by go_num, rs.set k ⟨A7, c7, r.vs ++ [Val.zero]⟩, HVY.out, HLY.out, (by first | exact HDY.out | (rw [← hAr2]; exact HDY.out)), HMY.out, HZY.out⟩
          case measure => simp [intOf]; omega
        · go_simp
          refine hK.out _ _ (by (try dsimp only); (first | exact ⟨hS1, hS2⟩ | exact ⟨trivial, fun b o h _ _ => rfl⟩ | exact ⟨trivial, fun b o h _ _ => (fut wo _).cell (p := ⟨b, o, none⟩) h⟩)) (fun hHeld => ?_)
          clear hK K
          (try simp only [Act.put, List.setIfInBounds_toArray, List.set_cons_zero, List.set_cons_succ])
          refine wpAnyH_ready (rs := [18]) (by kernel_rfl) (by simp) ?_
          refine AllReadyH.cons (o := ⟨some 80, _, _, _, _, _⟩) rfl (fun K hK => ?_) AllReadyH.nil
          go_simp
          refine hK.out _ _ (by (try dsimp only); (first | exact ⟨hS1, hS2⟩ | exact ⟨trivial, fun b o h _ _ => rfl⟩ | exact ⟨trivial, fun b o h _ _ => (fut wo _).cell (p := ⟨b, o, none⟩) h⟩)) (fun hHeld => ?_)
          clear hK K
          (try simp only [Act.put, List.setIfInBounds_toArray, List.set_cons_zero, List.set_cons_succ])
          refine wpAnyH_ready (rs := [21]) (by kernel_rfl) (by simp) ?_
          refine AllReadyH.cons (o := ⟨some 83, _, _, _, _, _⟩) rfl (fun K hK => ?_) AllReadyH.nil
          have HNEW : Hid (SlAt ((wo.alloc (.cells #[.int .i64 0, .int .i64 0, .bool false, .string ⟨#[]⟩] 36)).drew) ((wo.alloc (.cells #[.int .i64 0, .int .i64 0, .bool false, .string ⟨#[]⟩] 36)).drew).heap.size 4 (some ⟨wo.heap.size, 0, none⟩) [[.int .i64 0, .int .i64 0, .bool false, .string ⟨#[]⟩]]) := SlAt.one wo.drew 4 [.int .i64 0, .int .i64 0, .bool false, .string ⟨#[]⟩] 36
          have hown0 := HOWN.out.fut (w' := ((wo.alloc (.cells #[.int .i64 0, .int .i64 0, .bool false, .string ⟨#[]⟩] 36)).drew))
          rw [hAv] at hown0
          refine step_append_slA rfl (.tmp 80) (.tmp 82) 65 rfl eiV4 (base := g) (v := .slice (some ⟨gV, 0, none⟩) r.vs.length r.cap) (xs := r.vs.map Val.cells) rfl hown0 (vals_fit _) (A := some ⟨wo.heap.size, 0, none⟩) (c := 1) (n := 1) (ys := [[.int .i64 0, .int .i64 0, .bool false, .string ⟨#[]⟩]]) rfl rfl (by simp) HNEW.out (vals_fit [Val.zero]) (by rw [List.length_map]; show (r.vs.length + 1) * 40 ≤ _; omega) (Nat.le_trans hgwo (fut wo _).size) (N := r.vs.length + 1) (by rw [List.length_map]; rfl) ?_
          clear hown0
          intro A7 c7 w7 hq1 hq2 hown7 hgr7 hat7
          have hs7 := Doer.setRow (r' := ⟨A7, c7, r.vs ++ [Val.zero]⟩) (HDO.out.fut (w' := ((wo.alloc (.cells #[.int .i64 0, .int .i64 0, .bool false, .string ⟨#[]⟩] 36)).drew))) hr (Nat.le_trans hgwo (fut wo _).size) (by rw [hAv]; exact hgr7) (by show Own _ _ _ _ (.slice A7 (r.vs ++ [Val.zero]).length c7) _; rw [hel, List.map_append]; exact hown7) (by rw [← ob_eq A7 (r.vs.length + 1) c7, hAv]; rcases hat7 with h4 | h4; (left; exact h4); (right; exact ⟨_, h4, Nat.le_refl _⟩)) hAr
          rw [hel] at hs7
          have HS7 := hide hs7
          have HCE : Hid (∀ b o, b < wo.heap.size → b ≠ gV → w7.cell? ⟨b, o, none⟩ = wo.cell? ⟨b, o, none⟩) := fun b o h hn => (World.cell?_of_block (w := ((wo.alloc (.cells #[.int .i64 0, .int .i64 0, .bool false, .string ⟨#[]⟩] 36)).drew)) (hgr7.block b (Nat.lt_of_lt_of_le h (fut wo _).size) (by intro hh; injection hh with hh; exact hn hh))).trans ((fut wo ((wo.alloc (.cells #[.int .i64 0, .int .i64 0, .bool false, .string ⟨#[]⟩] 36)).drew)).cell (p := ⟨b, o, none⟩) h)
          have HZ7 : Hid (w.heap.size ≤ w7.heap.size) := Nat.le_trans hsz (Nat.le_trans (fut wo ((wo.alloc (.cells #[.int .i64 0, .int .i64 0, .bool false, .string ⟨#[]⟩] 36)).drew)).size hgr7.size)
          have HRB7 := hide ((HRB.out.fut (w' := ((wo.alloc (.cells #[.int .i64 0, .int .i64 0, .bool false, .string ⟨#[]⟩] 36)).drew))).grown hgr7 (by intro hh; injection hh with hh; exact hRV hh))
          have c7_ : w7.cell? ⟨gR, k, none⟩ = some (.slice r.A r.vs.length r.cap) := by rw [HCE.out gR k hltR hRV]; exact hcell
          have lr7 := HRB7.out.lt
          have fr7 := HRB7.out.free
          have HCF : Hid (∀ b o', b < wo.heap.size → b ≠ gV → b ≠ gR → (w7.setCell ⟨gR, k, none⟩ (.slice A7 (r.vs.length + 1) c7)).cell? ⟨b, o', none⟩ = wo.cell? ⟨b, o', none⟩) := fun b o' h h1 h2 => (World.cell?_of_block (w := w7) (Below.heap_setCell w7 ⟨gR, k, none⟩ _ b h2)).trans (HCE.out b o' h h1)
          clear hown7 hgr7 hs7
          refine hK.out _ _ (by (try dsimp only); (exact ⟨trivial, fun b o h h1 _ => HCE.out b o h h1⟩)) (fun hHeld => ?_)
          clear hK K
          (try simp only [Act.put, List.setIfInBounds_toArray, List.set_cons_zero, List.set_cons_succ])
          refine wT 22 84 (by assumption) ?_
          refine wT 23 85 (by assumption) ?_
          refine wpAnyH_ready (rs := [24]) (by kernel_rfl) (by simp) ?_
          refine AllReadyH.cons (o := ⟨none, _, _, _, _, _⟩) rfl (fun K hK => ?_) AllReadyH.nil
          go_simp
          refine hK.out _ _ (by (try dsimp only); (first | with_reducible exact ⟨trivial, fun b o h h1 h2 => HCF.out b o h h1 h2⟩ | exact ⟨trivial, fun b o h h1 h2 => HCF.out b o h h1 h2⟩)) (fun hHeld => ?_)
          clear hK K
          (try simp only [Act.put, List.setIfInBounds_toArray, List.set_cons_zero, List.set_cons_succ])
          refine wpAnyH_done (by kernel_rfl) ?_ _
          obtain ⟨Y, hY⟩ : ∃ y : World, y = w7.setCell ⟨gR, k, none⟩ (.slice A7 (r.vs.length + 1) c7) := ⟨_, rfl⟩
          have HDY : Hid (Doer Y g D T O ((⟨s2, A5, c5, t.sid, t.fs, t.Af, t.cf, t.rs, t.Ar, t.cr⟩ : TbA).with_ (rs.set k ⟨A7, c7, r.vs ++ [Val.zero]⟩)) o) := by rw [hY]; exact HS7.out.1
          have HMY : Hid (Mt g T w Y) := by rw [hY]; exact (HMT.out.trans (Mt.step hgwo (fut wo ((wo.alloc (.cells #[.int .i64 0, .int .i64 0, .bool false, .string ⟨#[]⟩] 36)).drew)))).trans HS7.out.2
          have HZY : Hid (w.heap.size ≤ Y.heap.size) := by
            show _ ≤ _
            rw [hY]
            have := (grown_setCell w7 gR k (.slice A7 (r.vs.length + 1) c7)).size
            have h2 := HZ7.out
            show _ ≤ (w7.setCell ⟨gR, k, none⟩ (.slice A7 (r.vs.length + 1) c7)).heap.size
            omega
          have HVY : Hid ((rs.set k ⟨A7, c7, r.vs ++ [Val.zero]⟩).map RowA.vs = mapTo (· ++ [Val.zero]) (k + 1) (t.rs.map RowA.vs)) := by
            show _ = _
            rw [← mapTo_step, ← HVS.out]
            exact map_set_modify (f := fun vs => vs ++ [Val.zero]) hr
          have HLY : Hid ((rs.set k ⟨A7, c7, r.vs ++ [Val.zero]⟩).length = t.rs.length) := by show _ = _; rw [List.length_set]; exact HRL.out
          rw [← hY]
          clear hY HS7 HCE HCF d0 d1 ld t0 t1 t2 t3 t4 t5 lt_ ft_ o0 o1 o2 o3 o4 o5 o6 o7 o8 o9 o10 o11 o12 o13 o14 o15 lo hcell c7_ lr7 fr7 hr
          go_wp2_with fail
          go_roundw
          case rel => exact ⟨k + 1, by omega, by go_num, rs.set k ⟨A7, c7, r.vs ++ [Val.zero]⟩, HVY.out, HLY.out, (by first | exact HDY.out | (rw [← hAr2]; exact HDY.out)), HMY.out, HZY.out⟩
          case measure => simp [intOf]; omega
      · obtain rfl : k = t.rs.length := by omega
        go_wp2_with fail
        go_end0
        rw [HE.out]
        exact ⟨HMT.out, rfl, _, by show (⟨s2, t.sid, t.fs, rs.map RowA.vs⟩ : Tb) = _; rw [← mapTo_all, List.length_map, HVS.out], HDO.out.tb, HDO.out.own.r⟩
  · have HE : Hid (R = .error 5) := by show _ = _; rw [← HR.out, if_pos hz]
    have SN : Hid (∀ {u0 u1 u2 : Value} (w'' : World) (_ : Fut w w''), Calls Tryz.prog 90 #[.pointer (some ⟨D, 0, none⟩), .agg #[u0, u1, u2], .int .i64 x2] w'' fun e w' => e = .panicked [{ v := faultM 5, recovered := false }] ∧ Step w'' w') := fun {u0 u1 u2} w'' hq => shape_no g D T O t o (.agg #[u0, u1, u2]) x2 hz u0 u1 u2 rfl w'' HD.out.fut
    refine wp_region_held_drew (S := (fun w' => w'.cell? ⟨D, 0, none⟩ = some (.pointer (some ⟨T, 0, none⟩)) ∧ w'.cell? ⟨D, 1, none⟩ = some (.pointer (some ⟨O, 0, none⟩)) ∧ w'.cell? ⟨O, 6, none⟩ = some (.string o.name) ∧ w'.cell? ⟨O, 7, none⟩ = some (.int .i64 o.ck))) (by kernel_rfl) (by (try dsimp only); (first | exact ⟨hS1, hS2⟩ | exact ⟨d0, d1, o6, o7⟩ | exact ⟨(At.z2 (HD.out.d.fut (w' := _)).at0).1, (At.z2 (HD.out.d.fut (w' := _)).at0).2, (At.zOp (HD.out.op.fut (w' := _)).at0).2.2.2.2.2.2.1, (At.zOp (HD.out.op.fut (w' := _)).at0).2.2.2.2.2.2.2.1⟩)) (fun hHeld => ?_)
    refine wT 0 25 (by assumption) ?_
    refine wT 1 26 (by assumption) ?_
    refine wT 8 33 (by assumption) ?_
    refine wT 15 40 (by assumption) ?_
    refine wT 2 27 (by assumption) ?_
    refine wT 9 34 (by assumption) ?_
    refine wT 16 41 (by assumption) ?_
    refine wT 3 28 (by assumption) ?_
    refine wT 10 35 (by assumption) ?_
    refine wT 17 42 (by assumption) ?_
    refine wT 4 29 (by assumption) ?_
    refine wT 11 36 (by assumption) ?_
    refine wT 18 43 (by assumption) ?_
    refine wT 5 30 (by assumption) ?_
    refine wT 12 37 (by assumption) ?_
    refine wT 19 44 (by assumption) ?_
    refine wT 6 31 (by assumption) ?_
    refine wT 13 38 (by assumption) ?_
    refine wT 20 45 (by assumption) ?_
    refine wT 14 39 (by assumption) ?_
    refine wT 21 46 (by assumption) ?_
    refine wpAnyH_ready (rs := [7]) (by kernel_rfl) (by simp) ?_
    refine AllReadyH.cons (o := ⟨some 32, _, _, _, _, _⟩) rfl (fun K hK => ?_) AllReadyH.nil
    go_simp
    refine hK.out _ _ (by (try dsimp only); (first | exact ⟨hS1, hS2⟩ | exact ⟨d0, d1, o6, o7⟩ | exact ⟨(At.z2 (HD.out.d.fut (w' := _)).at0).1, (At.z2 (HD.out.d.fut (w' := _)).at0).2, (At.zOp (HD.out.op.fut (w' := _)).at0).2.2.2.2.2.2.1, (At.zOp (HD.out.op.fut (w' := _)).at0).2.2.2.2.2.2.2.1⟩)) (fun hHeld => ?_)
    clear hK K
    (try simp only [Act.put, List.setIfInBounds_toArray, List.set_cons_zero, List.set_cons_succ])
    refine wpAnyH_ready (rs := [22]) (by kernel_rfl) (by simp) ?_
    refine AllReadyH.cons (o := ⟨some 47, _, _, _, _, _⟩) rfl (fun K hK => ?_) AllReadyH.nil
    obtain ⟨hS1, hS2⟩ := hHeld
    go_simp
    (go_at_call 91; (with_reducible refine (DR.out _ inferInstance).mono ?_); rintro e w5 ⟨A5, c5, rfl, hc5, ho5, hs5⟩; have HC5 := hide hc5; have HO5 := hide ho5; clear hc5 ho5)
    refine hK.out _ _ (by (try dsimp only); (first | exact ⟨(At.z2 (HD.out.d.fut (w' := w5)).at0).1, (At.z2 (HD.out.d.fut (w' := w5)).at0).2, (At.zOp (HD.out.op.fut (w' := w5)).at0).2.2.2.2.2.2.1, (At.zOp (HD.out.op.fut (w' := w5)).at0).2.2.2.2.2.2.2.1⟩)) (fun hHeld => ?_)
    clear hK K
    (try simp only [Act.put, List.setIfInBounds_toArray, List.set_cons_zero, List.set_cons_succ])
    refine wT 23 48 (by assumption) ?_
    refine wT 24 49 (by assumption) ?_
    refine wpAnyH_ready (rs := [25]) (by kernel_rfl) (by simp) ?_
    refine AllReadyH.cons (o := ⟨some 50, _, _, _, _, _⟩) rfl (fun K hK => ?_) AllReadyH.nil
    obtain ⟨hS1, hS2⟩ := hHeld
    go_simp
    (go_at_call 90; (with_reducible refine (SN.out _ inferInstance).mono ?_); rintro e w6 ⟨rfl, hs6⟩)
    exact ⟨rfl, by rw [HE.out]; exact ⟨Mt.step hg (fut w _), rfl⟩⟩
end Go.Proofs.YtnphokhehacfnaaGreatDoor

namespace Go.Proofs.YtnphokhehacfnaaGreatDoor
open Go.RowKit

end Go.Proofs.YtnphokhehacfnaaGreatDoor

namespace Go.Proofs.YtnphokhehacfnaaGreatDoor
open Go.RowKit

theorem shape_err {t : Tb} {r : Sch × Int} {c : Int} (h : shapeP t r = .error c) : c = 5 := by
  unfold shapeP at h
  split at h
  · injection h with h; omega
  · cases h
theorem run_err {t : Tb} {o : Opp} {c : Int} (h : runP t o = .error c) : c ≠ 0 := by
  unfold runP at h
  split at h
  · exact grow_err h
  split at h
  · exact take_err h
  split at h
  · exact upd_err h
  split at h
  · rw [addcP_eq] at h
    split at h
    · injection h with h; omega
    · cases h
  split at h
  · unfold dropP at h
    split at h
    · injection h with h; omega
    · split at h
      · injection h with h; omega
      · split at h
        · rename_i hq
          injection h with h
          have := shape_err hq
          omega
        · cases h
  split at h
  · have := shape_err h
    omega
  split at h
  · unfold partP25 at h
    split at h
    · injection h with h; omega
    · cases h
  · cases h
end Go.Proofs.YtnphokhehacfnaaGreatDoor

namespace Go.Proofs.YtnphokhehacfnaaGreatDoor
open Go.RowKit

def e0 : ByteArray := ⟨#[]⟩
def tx25 : Val := ⟨3, 0, false, ⟨#[120]⟩⟩
def no25 : Val := ⟨0, 0, false, e0⟩
def badN : Nod := ⟨1, ⟨#[97]⟩, 0, tx25, 0, 0⟩
def nonN : Nod := ⟨3, e0, 0, no25, 0, 0⟩
/-- The operations that are refused. -/
def refOps : List Opp := [
  ⟨0, [⟨#[122]⟩], [[kv25 1]], [], e0, e0, 0, no25, [], 0⟩,
  ⟨0, [⟨#[97]⟩], [[tx25]], [], e0, e0, 0, no25, [], 0⟩,
  ⟨0, [⟨#[97]⟩, ⟨#[97]⟩], [], [], e0, e0, 0, no25, [], 0⟩,
  ⟨0, [⟨#[97]⟩], [[]], [], e0, e0, 0, no25, [], 0⟩,
  ⟨0, [⟨#[97]⟩], List.replicate 65 [], [], e0, e0, 0, no25, [], 0⟩,
  ⟨1, [], [], [badN], e0, e0, 0, no25, [], 0⟩,
  ⟨2, [], [], [nonN], e0, e0, 0, no25, [], 0⟩,
  ⟨3, [], [], [], ⟨#[122]⟩, e0, 0, kv25 1, [], 0⟩,
  ⟨3, [], [], [], ⟨#[98]⟩, e0, 0, kv25 1, [], 0⟩,
  ⟨3, [], [], [], ⟨#[97]⟩, e0, 0, ⟨9, 0, false, e0⟩, [], 0⟩,
  ⟨4, [], [], [], e0, ⟨#[97]⟩, 1, no25, [], 0⟩,
  ⟨4, [], [], [], e0, ⟨#[120]⟩, 7, no25, [], 0⟩,
  ⟨5, [], [], [], ⟨#[122]⟩, e0, 0, no25, [], 0⟩,
  ⟨6, [], [], [], ⟨#[97]⟩, ⟨#[98]⟩, 0, no25, [], 0⟩,
  ⟨9, [], [], [], e0, e0, 0, no25, [], 0⟩,
  ⟨-1, [], [], [], e0, e0, 0, no25, [], 0⟩]
def refWant : List Int := [5, 5, 5, 9, 9, 5, 9, 5, 5, 9, 5, 5, 5, 5, 9, 9]
def opSumB : Opp := ⟨9, [], [], [], ⟨#[98]⟩, e0, 0, no25, [], 2⟩
def opNonR : Opp := ⟨9, [], [], [nonN], e0, e0, 0, no25, [], 0⟩
end Go.Proofs.YtnphokhehacfnaaGreatDoor

