/-
  A predicate in a place of its own, and with a node more behind it.
-/
import Derived.Test.YtcgpfllkbflbhaaDoorPw
import Derived.Laws.MakeOwn
namespace Go.Proofs.YtcgpfllkbflbhaaDoor
open Go.RowKit

theorem eiNod : EI Tryd.prog 22 55 9 88 :=
  ⟨Tryd.underlying22, info_parts (show (Tryd.prog.info? 55).map (fun i => (i.zero, i.size, i.bytes)) = some (some (.agg #[.int .i64 0, .string .empty, .int .i64 0, .int .i64 0, .int .i64 0, .bool false, .string .empty, .int .i64 0, .int .i64 0]), 9, 88) by kernel_rfl) |>.elim fun i h => ⟨i, _, h.1, h.2.1, h.2.2.1, h.2.2.2, rfl⟩, by decide, by decide⟩
/-- What make gives: nothing yet, in new memory. -/
theorem made_any {P : Program} {t e : TypeId} {size bytes : Nat} (h : EI P t e size bytes) (c : Nat) (hb : bytes * c ≤ 281474976710656) (hc : c ≤ 9223372036854775807) :
    ∃ O : Obj, (∀ w : World, (Instr.makeSlice t (.int .i64 0) (.int .i64 (c : Int))).run P w = .ok (.slice (some ⟨w.heap.size, 0, none⟩) 0 c) (w.alloc O)) ∧ ∀ (w : World) (base : Nat), base ≤ w.heap.size → Own (w.alloc O) base e size (.slice (some ⟨w.heap.size, 0, none⟩) 0 c) [] := by
  obtain ⟨ht, ⟨i, z, hi, hz, hs, hby, _⟩, _, _⟩ := h
  subst hs hby
  refine ⟨.cells (madeCells z.cells (c * i.size)) e, fun w => ?_, fun w base hbase => World.ownsRow_made w _ c hbase (by simpa [maxLen] using hc) (size_madeCells _ _)⟩
  have hb' : (i.bytes : Int) * (c : Int) ≤ 281474976710656 := by
    have h : ((i.bytes * c : Nat) : Int) ≤ 281474976710656 := by omega
    rwa [Int.natCast_mul] at h
  have hr := run_make (P := P) w t e i z ht hi hz .i64 .i64 0 c (Int.le_refl _) (by omega) hb' (by omega)
  simpa only [Int.toNat_zero, Int.toNat_natCast] using hr
theorem PrIn.of_own {w : World} {base : Nat} {A : Option Addr} {cap n : Nat} {l : List Nod} (h : Own w base 55 9 (.slice A n cap) (l.map Nod.cells)) (hn : l.length = n) (hl : n ≤ 1599289640400) (hs : ∀ n ∈ l, n.col.size ≤ 9223372036854775807 ∧ n.v.s.size ≤ 9223372036854775807) : PrIn w l A cap := by
  subst hn
  obtain ⟨A', c', hv, h1, h2, h3, _⟩ := h.slice (nods_fit l).len (by simp : (l.map Nod.cells).length = l.length)
  injection hv with e1 e2 e3
  subst e1 e3
  exact ⟨h1, by simpa [maxLen] using h2, hl, h3, hs⟩

set_option maxRecDepth 100000 in
set_option maxHeartbeats 4000000 in
theorem lent_any {w0 : World} (ns : List Nod) (A : Option Addr) (cap : Nat) (w : World) (h : PrIn w0 ns A cap) [hf : Fut w0 w] :
    Calls Tryd.prog 14 #[.agg #[.slice A ns.length cap]] w fun e w' => ∃ (A' : Option Addr) (c' : Nat), e = .returned (.agg #[.slice A' ns.length c']) ∧ Own w' (w.heap.size + 2) 55 9 (.slice A' ns.length c') (ns.map Nod.cells) ∧ Step w w' := by
  have hl := h.len
  have hz := hf.below.size
  obtain ⟨W, hW⟩ : ∃ W, W = (w.alloc (.cells #[.slice A ns.length cap] 24)).alloc (.cells #[.slice none 0 0] 24) := ⟨_, rfl⟩
  have SW : Step w W := by rw [hW]; exact Step.of
  have HPB : Hid (Blk W w.heap.size 24 [.slice A ns.length cap]) := by rw [hW]; exact (Blk.new w [.slice A ns.length cap] 24).alloc _
  have HZB : Hid (Blk W (w.heap.size + 1) 24 [.slice none 0 0]) := by rw [hW]; exact Blk.new_at (by simp) [.slice none 0 0] 24
  have HLW : Hid (W.heap.size = w.heap.size + 2) := by rw [hW]; show _ = _; simp
  have HLE : Hid (w.heap.size + 1 ≤ W.heap.size) := by show _ ≤ _; rw [HLW.out]; omega
  obtain ⟨OBJ, hmk0, hom⟩ := made_any eiNod (ns.length + 1) (by omega) (by omega)
  have hmk : ∀ w' : World, (Instr.makeSlice 22 (.int .i64 0) (.int .i64 ((ns.length : Int) + 1))).run Tryd.prog w' = .ok (.slice (some ⟨w'.heap.size, 0, none⟩) 0 (ns.length + 1)) (w'.alloc OBJ) := fun w' => by simpa using hmk0 w'
  have HOM := hide (hom W.drew W.heap.size (Nat.le_refl _))
  have HSL := hide (h.at_.fut (w' := W.drew.alloc OBJ))
  have hwr : IntKind.i64.wrap ((ns.length : Int) + 1) = (ns.length : Int) + 1 := by rw [IntKind.wrap_i64]; omega
  have HW := hide hW
  clear hW hmk0 hom
  go_enter Tryd.func14, Tryd.ntmps14
  go_upto_region 1 with (fail)
  rw [← HW.out]
  have p0 := At.z1 HPB.out.at0
  have lp : w.heap.size < w.heap.size + 1 := by omega
  have lp2 := HPB.out.lt
  refine wp_region_held_drew (S := (fun w' => Below (w.heap.size + 1) W w' ∧ (∀ b o, b < w.heap.size + 1 → w'.cell? ⟨b, o, none⟩ = W.cell? ⟨b, o, none⟩))) (by kernel_rfl) (by (try dsimp only); (first | exact ⟨(fut W _).mono HLE.out, fun b o h => ((fut W _).mono HLE.out).cell (p := ⟨b, o, none⟩) h⟩)) (fun hHeld => ?_)
  refine wpAnyH_take (i := 0) (oi := ⟨some 3, _, _, _, _, _⟩) (v := ?_) rfl (by kernel_rfl) (by kernel_rfl) (by kernel_rfl) (fun _ _ _ h => h) (Or.inl ⟨by rfl, ?_⟩) (by assumption) ?_
  rotate_left
  · ((intro w hSw); (try dsimp only at hSw); go_simp; (try with_reducible rfl))
  (try simp only [Act.put, List.setIfInBounds_toArray, List.set_cons_zero, List.set_cons_succ])
  refine wpAnyH_take (i := 1) (oi := ⟨some 4, _, _, _, _, _⟩) (v := ?_) rfl (by kernel_rfl) (by kernel_rfl) (by kernel_rfl) (fun _ _ _ h => h) (Or.inl ⟨by rfl, ?_⟩) (by assumption) ?_
  rotate_left
  · ((intro w hSw); (try dsimp only at hSw); go_simp; (try with_reducible rfl))
  (try simp only [Act.put, List.setIfInBounds_toArray, List.set_cons_zero, List.set_cons_succ])
  refine wpAnyH_take (i := 2) (oi := ⟨some 5, _, _, _, _, _⟩) (v := ?_) rfl (by kernel_rfl) (by kernel_rfl) (by kernel_rfl) (fun _ _ _ h => h) (Or.inl ⟨by rfl, ?_⟩) (by assumption) ?_
  rotate_left
  · ((intro w hSw); (try dsimp only at hSw); go_simp; (try with_reducible rfl))
  (try simp only [Act.put, List.setIfInBounds_toArray, List.set_cons_zero, List.set_cons_succ])
  refine wpAnyH_take (i := 3) (oi := ⟨some 6, _, _, _, _, _⟩) (v := ?_) rfl (by kernel_rfl) (by kernel_rfl) (by kernel_rfl) (fun _ _ _ h => h) (Or.inl ⟨by rfl, ?_⟩) (by assumption) ?_
  rotate_left
  · ((intro w hSw); (try dsimp only at hSw); go_simp; (try with_reducible rfl))
  (try simp only [Act.put, List.setIfInBounds_toArray, List.set_cons_zero, List.set_cons_succ])
  refine wpAnyH_take (i := 5) (oi := ⟨some 8, _, _, _, _, _⟩) (v := ?_) rfl (by kernel_rfl) (by kernel_rfl) (by kernel_rfl) (fun _ _ _ h => h) (Or.inl ⟨by rfl, ?_⟩) (by assumption) ?_
  rotate_left
  · ((intro w hSw); (try dsimp only at hSw); go_simp; (try with_reducible rfl))
  (try simp only [Act.put, List.setIfInBounds_toArray, List.set_cons_zero, List.set_cons_succ])
  refine wpAnyH_take (i := 6) (oi := ⟨some 9, _, _, _, _, _⟩) (v := ?_) rfl (by kernel_rfl) (by kernel_rfl) (by kernel_rfl) (fun _ _ _ h => h) (Or.inl ⟨by rfl, ?_⟩) (by assumption) ?_
  rotate_left
  · ((intro w hSw); (try dsimp only at hSw); go_simp; (try with_reducible rfl))
  (try simp only [Act.put, List.setIfInBounds_toArray, List.set_cons_zero, List.set_cons_succ])
  refine wpAnyH_ready (rs := [4]) (by kernel_rfl) (by simp) ?_
  refine AllReadyH.cons (o := ⟨some 7, _, _, _, _, _⟩) rfl (fun K hK => ?_) AllReadyH.nil
  go_simp
  refine hK.out _ _ (by (try dsimp only); (first | exact ⟨(fut W _).mono HLE.out, fun b o h => ((fut W _).mono HLE.out).cell (p := ⟨b, o, none⟩) h⟩)) (fun hHeld => ?_)
  clear hK K
  (try simp only [Act.put, List.setIfInBounds_toArray, List.set_cons_zero, List.set_cons_succ])
  refine wpAnyH_ready (rs := [7]) (by kernel_rfl) (by simp) ?_
  refine AllReadyH.cons (o := ⟨some 10, _, _, _, _, _⟩) rfl (fun K hK => ?_) AllReadyH.nil
  (refine step_append_sl rfl (.tmp 7) (.tmp 9) 22 rfl eiNod (base := W.heap.size) (xs := []) rfl HOM.out Fit.nil_ (ys := ns.map Nod.cells) rfl (by simp) HSL.out (nods_fit _) (by simp; omega) (by simp) (N := ns.length) (by simp) ?_; intro A7 c7 w7 hc1 hc2 hown7 hgr7 hbel7; have H7 := hide hown7; have F7 : Step W w7 := ⟨(fut W (W.drew.alloc OBJ)).trans hbel7⟩; have hzb := HZB.out.fut (w' := w7); have z0 := At.z1 hzb.at0; have fz := hzb.free; have lz := hzb.lt; have HZ7 := hide hzb; clear hown7 hgr7 hbel7 hzb)
  refine hK.out _ _ (by (try dsimp only); (first | exact ⟨(fut W _).mono HLE.out, fun b o h => ((fut W _).mono HLE.out).cell (p := ⟨b, o, none⟩) h⟩)) (fun hHeld => ?_)
  clear hK K
  (try simp only [Act.put, List.setIfInBounds_toArray, List.set_cons_zero, List.set_cons_succ])
  refine wpAnyH_take (i := 8) (oi := ⟨some 11, _, _, _, _, _⟩) (v := ?_) rfl (by kernel_rfl) (by kernel_rfl) (by kernel_rfl) (fun _ _ _ h => h) (Or.inl ⟨by rfl, ?_⟩) (by assumption) ?_
  rotate_left
  · ((intro w hSw); (try dsimp only at hSw); go_simp; (try with_reducible rfl))
  (try simp only [Act.put, List.setIfInBounds_toArray, List.set_cons_zero, List.set_cons_succ])
  refine wpAnyH_ready (rs := [9]) (by kernel_rfl) (by simp) ?_
  refine AllReadyH.cons (o := ⟨none, _, _, _, _, _⟩) rfl (fun K hK => ?_) AllReadyH.nil
  go_simp
  refine hK.out _ _ (by (try dsimp only); (exact ⟨((fut W w7).mono HLE.out).setCell (Nat.le_refl _) _, fun b o h => (((fut W w7).mono HLE.out).setCell (p := ⟨w.heap.size + 1, 0, none⟩) (Nat.le_refl _) _).cell (p := ⟨b, o, none⟩) h⟩)) (fun hHeld => ?_)
  clear hK K
  (try simp only [Act.put, List.setIfInBounds_toArray, List.set_cons_zero, List.set_cons_succ])
  refine wpAnyH_done (by kernel_rfl) ?_ _
  go_wp2_with fail
  have HR := hide (HZ7.out.set_ 0 (.slice A7 ns.length c7))
  have t0 := At.z1 HR.out.at0
  refine bodyPost_ret (v := .agg #[.slice A7 ns.length c7]) (by simp [results, Tryd.results14, go_sem, t0]) rfl ?_
  refine ⟨A7, c7, rfl, ?_, ⟨(fut w w7).setCell (by simp) _⟩⟩
  have := (H7.out.set_other HZ7.out (by decide) 0 (.slice A7 ns.length c7)).more (base' := w.heap.size + 2) (by rw [HLW.out]; omega)
  simpa using this

set_option maxRecDepth 100000 in
set_option maxHeartbeats 4000000 in
theorem behind_any {w0 : World} (ns : List Nod) (A : Option Addr) (cap : Nat) (x : Nod) (w : World) (h : PrIn w0 ns A cap) [hf : Fut w0 w] (h24 : ns.length ≤ 24) (hx : x.col.size ≤ 9223372036854775807 ∧ x.v.s.size ≤ 9223372036854775807) :
    Calls Tryd.prog 31 #[.agg #[.slice A ns.length cap], .agg #[.int .i64 x.kind, .string x.col, .int .i64 x.cmp, .int .i64 x.v.kind, .int .i64 x.v.i, .bool x.v.b, .string x.v.s, .int .i64 x.l, .int .i64 x.r]] w fun e w' => ∃ (A' : Option Addr) (c' : Nat), e = .returned (.agg #[.slice A' (ns.length + 1) c']) ∧ PrIn w' (ns ++ [x]) A' c' ∧ Step w w' := by
  have HST : Hid (∀ n ∈ ns ++ [x], n.col.size ≤ 9223372036854775807 ∧ n.v.s.size ≤ 9223372036854775807) := fun n hn => by
    rcases List.mem_append.1 hn with e | e
    · exact h.strs n e
    · simp at e; subst e; exact hx
  obtain ⟨W, hW⟩ : ∃ W, W = ((w.alloc (.cells #[.slice A ns.length cap] 24)).alloc (.cells #[.int .i64 x.kind, .string x.col, .int .i64 x.cmp, .int .i64 x.v.kind, .int .i64 x.v.i, .bool x.v.b, .string x.v.s, .int .i64 x.l, .int .i64 x.r] 55)).alloc (.cells #[.slice none 0 0] 24) := ⟨_, rfl⟩
  have SW : Step w W := by rw [hW]; exact Step.of
  have HXB : Hid (Blk W (w.heap.size + 1) 55 [.int .i64 x.kind, .string x.col, .int .i64 x.cmp, .int .i64 x.v.kind, .int .i64 x.v.i, .bool x.v.b, .string x.v.s, .int .i64 x.l, .int .i64 x.r]) := by rw [hW]; exact (Blk.new_at (by simp) [.int .i64 x.kind, .string x.col, .int .i64 x.cmp, .int .i64 x.v.kind, .int .i64 x.v.i, .bool x.v.b, .string x.v.s, .int .i64 x.l, .int .i64 x.r] 55).alloc _
  have HLW : Hid (W.heap.size = w.heap.size + 1 + 1 + 1) := by rw [hW]; show _ = _; simp
  have HZB : Hid (Blk W (w.heap.size + 1 + 1) 24 [.slice none 0 0]) := by rw [hW]; exact Blk.new_at (by simp) [.slice none 0 0] 24
  have HW := hide hW
  clear hW
  have HL := hide (fun w' [Fut w0 w'] => lent_any ns A cap w' h)
  go_enter Tryd.func31, Tryd.ntmps31
  go_wp2_with fail
  refine (HL.out _).mono ?_
  intro e w1 hr
  obtain ⟨A1, c1, rfl, hown, hs1⟩ := hr
  rw [← HW.out] at hs1 hown
  have HO := hide hown; clear hown HL
  have hz1 := hs1.size
  have hne : w.heap.size + 1 + 1 ≠ w1.heap.size := by have := HLW.out; omega
  have hne2 : w1.heap.size ≠ w.heap.size + 1 + 1 := by omega
  have hzw := SW.size
  have HQ := hide (Blk.new w1 [.slice A1 ns.length c1] 24)
  have n_ := HXB.out.fut (w' := w1.alloc (.cells #[.slice A1 ns.length c1] 24))
  obtain ⟨n0, n1, n2, n3, n4, n5, n6, n7, n8⟩ := At.z9 n_.at0
  have ln := n_.lt
  clear n_
  have HOw := hide ((HO.out.alloc (.cells #[.slice A1 ns.length c1] 24)).alloc (.cells #[.int .i64 x.kind, .string x.col, .int .i64 x.cmp, .int .i64 x.v.kind, .int .i64 x.v.i, .bool x.v.b, .string x.v.s, .int .i64 x.l, .int .i64 x.r] 55))
  have HNew := hide (SlAt.one_at (w := w1.alloc (.cells #[.slice A1 ns.length c1] 24)) (b := w1.heap.size + 1) (by simp) 9 x.cells 55)
  have HQ2 := hide (HQ.out.alloc (.cells #[.int .i64 x.kind, .string x.col, .int .i64 x.cmp, .int .i64 x.v.kind, .int .i64 x.v.i, .bool x.v.b, .string x.v.s, .int .i64 x.l, .int .i64 x.r] 55))
  have HZ2 := hide (HZB.out.fut (w' := (w1.alloc (.cells #[.slice A1 ns.length c1] 24)).alloc (.cells #[.int .i64 x.kind, .string x.col, .int .i64 x.cmp, .int .i64 x.v.kind, .int .i64 x.v.i, .bool x.v.b, .string x.v.s, .int .i64 x.l, .int .i64 x.r] 55)))
  go_wp2_with (at_builtin; go_loud (refine wpList_append_sl rfl (.tmp 9) (.tmp 11) 22 rfl eiNod (base := W.heap.size + 2) (xs := ns.map Nod.cells) rfl HOw.out (nods_fit _) (ys := [x.cells]) rfl (by simp) HNew.out (nods_fit [x]) (by simp; omega) (by simp; omega) (N := ns.length + 1) (by simp) ?_; intro A5 c5 w5 hq1 hq2 hown5 hgr5 hbel5; have H5 := hide hown5; have HB5 := hide hbel5; have hq5 := HQ2.out.grown hgr5 (HOw.out.ne_ HQ2.out (by decide)); have hz5 := HZ2.out.grown hgr5 (HOw.out.ne_ HZ2.out (by decide)); have q0 := At.z1 hq5.at0; have fq := hq5.free; have lq := hq5.lt; have y0 := At.z1 hz5.at0; have fy := hz5.free; have ly := hz5.lt; have HQ5 := hide hq5; have HZ5 := hide hz5; clear hown5 hgr5 hbel5 hq5 hz5))
  have HR := hide ((HZ5.out.far (p := ⟨w1.heap.size, 0, none⟩) hne (.slice A5 (ns.length + 1) c5)).set_ 0 (.slice A5 (ns.length + 1) c5))
  have t0 := At.z1 HR.out.at0
  refine bodyPost_ret (v := .agg #[.slice A5 (ns.length + 1) c5]) (by simp [results, Tryd.results31, go_sem, t0]) rfl ?_
  refine ⟨A5, c5, rfl, ?_, ⟨?_⟩⟩
  · have k1 := (H5.out.set_other HQ5.out (by decide) 0 (.slice A5 (ns.length + 1) c5)).set_other (HZ5.out.far (p := ⟨w1.heap.size, 0, none⟩) hne (.slice A5 (ns.length + 1) c5)) (by decide) 0 (.slice A5 (ns.length + 1) c5)
    exact PrIn.of_own (l := ns ++ [x]) (by simpa using k1) (by simp) (by omega) HST.out
  · have hb5 : Below w.heap.size w w5 := ((fut w ((w1.alloc (.cells #[.slice A1 ns.length c1] 24)).alloc (.cells #[.int .i64 x.kind, .string x.col, .int .i64 x.cmp, .int .i64 x.v.kind, .int .i64 x.v.i, .bool x.v.b, .string x.v.s, .int .i64 x.l, .int .i64 x.r] 55)))).trans (HB5.out.mono (by omega))
    exact (hb5.setCell (by simp; omega) _).setCell (by show w.heap.size ≤ w.heap.size + 1 + 1; omega) _
end Go.Proofs.YtcgpfllkbflbhaaDoor
