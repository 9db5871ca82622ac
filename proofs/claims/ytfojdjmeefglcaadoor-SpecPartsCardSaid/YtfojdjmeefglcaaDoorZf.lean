/-
  spec.part, spec.Part: a row's part.
-/
import Derived.Test.YtfojdjmeefglcaaDoorZe
import Derived.Test.YtfojdjmeefglcaaDoorRw
import Derived.Test.YtfojdjmeefglcaaDoorRo
namespace Go.Proofs.YtfojdjmeefglcaaDoor
open Go.RowKit

def FineV (v : Val) : Prop := v.s.size ≤ 9223372036854775000 ∧ -9223372036854775808 ≤ v.i ∧ v.i ≤ 9223372036854775807
def partT (s : Sch) (fs : List Fld) (vs : List Val) : List Val := fs.map fun f => (applyR f (vs.getD (s.cols.findIdx (colId f.source)) Val.zero)).1
theorem partT_len (s : Sch) (fs : List Fld) (vs : List Val) : (partT s fs vs).length = fs.length := by simp [partT]
theorem partT_succ {s : Sch} {fs : List Fld} {vs : List Val} {k j : Nat} {f : Fld} {v : Val} (h : fs[k]? = some f) (hj : s.cols.findIdx (colId f.source) = j) (hv : vs[j]? = some v) : partT s (fs.take (k + 1)) vs = partT s (fs.take k) vs ++ [(applyR f v).1] := by
  unfold partT
  rw [List.take_add_one, h]
  simp [hj, List.getD_eq_getElem?_getD, hv]
/-- A field of a spec that may be has a column. -/
theorem spec_col {id : Int} {fs : List Fld} {s : Sch} {k : Nat} {f : Fld} (h : specB id fs s = true) (hf : fs[k]? = some f) : ∃ j : Nat, idx (colId f.source) s.cols = (j : Int) ∧ j < s.cols.length ∧ s.cols.findIdx (colId f.source) = j := by
  have hk := (List.getElem?_eq_some_iff.1 hf).1
  unfold specB at h
  simp only [Bool.and_eq_true, decide_eq_true_eq] at h
  have := fldsUpto_iff.1 h.2.2.2.2 k hk f hf
  unfold fldB at this
  simp only [Bool.and_eq_true, decide_eq_true_eq] at this
  obtain ⟨e, hl⟩ := idx_yes this.1
  exact ⟨_, e, hl, rfl⟩
theorem spec_param {id : Int} {fs : List Fld} {s : Sch} {k : Nat} {f : Fld} (h : specB id fs s = true) (hf : fs[k]? = some f) : paramB f = true := by
  have hk := (List.getElem?_eq_some_iff.1 hf).1
  unfold specB at h
  simp only [Bool.and_eq_true, decide_eq_true_eq] at h
  have := fldsUpto_iff.1 h.2.2.2.2 k hk f hf
  unfold fldB at this
  simp only [Bool.and_eq_true] at this
  exact this.2.1
theorem rowB_width {s : Sch} {vs : List Val} (h : rowB s vs = true) : vs.length = s.cols.length := by
  rcases Nat.decEq vs.length s.cols.length with e | e
  · rw [rowB_len e] at h; cases h
  · exact e
set_option maxRecDepth 100000 in
set_option maxHeartbeats 8000000 in
theorem ppart_any {w0 w1 w2 w3 : World} (gp gs : Nat) (id : Int) (fs : List Fld) (Af : Option Addr) (cf : Nat) (s : Sch) (As : Option Addr) (cs : Nat) (vs : List Val) (Av : Option Addr) (cv : Nat) (w : World)
    (hbp : Blk w0 gp 88 [.int .i64 id, .slice Af fs.length cf]) (hbs : Blk w0 gs 24 [.int .i64 s.id, .slice As s.cols.length cs, .int .i64 s.next]) (hf : FsIn w1 fs Af cf) (hs : SchIn w2 s As cs) (hv : SlAt w3 w3.heap.size 4 Av (vs.map Val.cells))
    [f0 : Fut w0 w] [f1 : Fut w1 w] [f2 : Fut w2 w] [f3 : Fut w3 w] (hfine : ∀ v ∈ vs, FineV v) (hsp : specB id fs s = true) (hrow : rowB s vs = true) :
    Calls Tryd.prog 98 #[.pointer (some ⟨gp, 0, none⟩), .pointer (some ⟨gs, 0, none⟩), .agg #[.slice Av vs.length cv]] w fun e w' => ∃ (A' : Option Addr) (c' : Nat), e = .returned (.slice A' fs.length c') ∧ Own w' w.heap.size 73 4 (.slice A' fs.length c') ((partT s fs vs).map Val.cells) ∧ Step w w' := by
  have z0 := f0.below.size; have z1 := f1.below.size; have z2 := f2.below.size; have z3 := f3.below.size
  have hvl := rowB_width hrow
  have h12 : fs.length ≤ 4 := by
    have := hsp
    unfold specB at this
    simp only [Bool.and_eq_true, decide_eq_true_eq] at this
    exact this.2.2.2.1
  have HSP := hide hsp; have HVL := hide hvl; have HFN := hide hfine
  clear hsp hrow hvl hfine
  have HBP := hide hbp; have HBS := hide hbs
  obtain ⟨W, hW⟩ : ∃ W, W = w.alloc (.cells #[.slice Av vs.length cv] 70) := ⟨_, rfl⟩
  have SW : Step w W := by rw [hW]; exact Step.of
  have HRW : Hid (Blk W w.heap.size 70 [.slice Av vs.length cv]) := by rw [hW]; exact Blk.new w [.slice Av vs.length cv] 70
  have HW := hide hW
  have hzW := SW.size
  have lp := HBP.out.lt
  clear hW hbp hbs
  have hp_ := HBP.out.fut (w' := w.alloc (.cells #[.slice Av vs.length cv] 70)); obtain ⟨p0, p1⟩ := At.z2 hp_.at0
  have lp2 : gp < w.heap.size := by omega
  clear hp_
  go_enter Tryd.func98, Tryd.ntmps98
  go_wp2_with fail
  clear p0 p1
  rw [← HW.out]
  go_loopw [7, 9, 10, 11, 17] (fun out _ _ _ i wr => ∃ (k : Nat) (A' : Option Addr) (c' : Nat), k ≤ fs.length ∧ i = .int .i64 k ∧ out = .slice A' k c' ∧ Own wr W.heap.size 73 4 (.slice A' k c') ((partT s (fs.take k) vs).map Val.cells) ∧ Step W wr) (fun _ _ _ _ i _ => fs.length - (intOf i).toNat)
  case atStart => exact ⟨0, none, 0, Nat.zero_le _, rfl, rfl, Own.nil_ _ _ _ _, Step.of⟩
  case round =>
    obtain ⟨k, A', c', hk, rfl, rfl, hown, hst⟩ := hrel
    have HO := hide hown; clear hown
    obtain ⟨wo, rfl⟩ : ∃ x : World, x = wr := ⟨_, rfl⟩
    have hzo := hst.size
    by_cases hlt : k < fs.length
    · obtain ⟨b, off, hA, hb, hc⟩ := hf.at_.elem (w' := wo) inferInstance (k := k) (by simpa using hlt)
      obtain ⟨f, hfk⟩ : ∃ f, fs[k]? = some f := ⟨_, List.getElem?_eq_getElem hlt⟩
      obtain ⟨c0, c1, c2⟩ := At.l3 (hc k f.cells (by simp [hfk]))
      have hlb : b < wo.heap.size := by omega
      have hkl : (k : Int) < (fs.length : Int) := by omega
      have hk0 : (0 : Int) ≤ (k : Int) := by omega
      obtain ⟨j, hij, hjl, hfj⟩ := spec_col HSP.out hfk
      obtain ⟨v, hvj⟩ : ∃ v, vs[j]? = some v := ⟨_, List.getElem?_eq_getElem (by rw [HVL.out]; exact hjl)⟩
      have HPS := hide (partT_succ hfk hfj hvj)
      have HFV := hide (HFN.out v (List.mem_of_getElem? hvj))
      have fd := fun w' [Fut w0 w'] [Fut w2 w'] => pfindId_any gs s As cs f.source w' HBS.out hs
      rw [hij] at fd
      have FD := hide fd
      obtain ⟨b4, o4, hA4, hb4, hc4⟩ := hv.elem (w' := wo) inferInstance (k := j) (by rw [List.length_map, HVL.out]; exact hjl)
      obtain ⟨v0, v1, v2, v3⟩ := At.l4 (hc4 j v.cells (by simp [hvj]))
      have hl4 : b4 < wo.heap.size := by omega
      have hj0 : (0 : Int) ≤ (j : Int) := by omega
      have hj1 : (j : Int) < (vs.length : Int) := by rw [HVL.out]; omega
      have ap := fun w' => papply_any f v w' HFV.out.1 HFV.out.2.1 HFV.out.2.2
      generalize applyR f v = T at ap HPS
      obtain ⟨⟨rk, ri, rb, rs⟩, re⟩ := T
      unfold Val.val at ap
      simp only at ap HPS
      have AP := hide ap
      have HLN : Hid (((partT s (fs.take k) vs).map Val.cells).length = k) := by show _ = _; rw [List.length_map, partT_len]; simp; omega
      rw [hA]
      clear fd ap hij hfj hvj hc hc4 hfk hA
      go_upto_region 5 with (fail)
      clear c0 c1 c2 hlb
      obtain ⟨X, hX⟩ : ∃ x : World, x = wo.alloc (.cells #[.int .i64 f.source, .int .i64 f.trans, .int .i64 f.param] 78) := ⟨_, rfl⟩
      have SX : Step wo X := by rw [hX]; exact Step.of
      have HFX : Hid (Blk X wo.heap.size 78 [.int .i64 f.source, .int .i64 f.trans, .int .i64 f.param]) := by rw [hX]; exact Blk.new wo [.int .i64 f.source, .int .i64 f.trans, .int .i64 f.param] 78
      rw [← hX]
      clear hX
      have hzX := SX.size
      obtain ⟨y0, y1, y2⟩ := At.z3 HFX.out.at0; have ly := HFX.out.lt
      have hr_ := HRW.out.fut (w' := X); have r0 := At.z1 hr_.at0; have lr := hr_.lt
      rw [hA4] at r0
      clear hr_ hA4
      have v0' : X.cell? ⟨b4, o4 + j * 4, none⟩ = some (.int .i64 v.kind) := by rw [(bcell (fut wo X)).1 _ _ hl4]; exact v0
      have v1' : X.cell? ⟨b4, o4 + j * 4 + 1, none⟩ = some (.int .i64 v.i) := by rw [(bcell (fut wo X)).1 _ _ hl4]; exact v1
      have v2' : X.cell? ⟨b4, o4 + j * 4 + 2, none⟩ = some (.bool v.b) := by rw [(bcell (fut wo X)).1 _ _ hl4]; exact v2
      have v3' : X.cell? ⟨b4, o4 + j * 4 + 3, none⟩ = some (.string v.s) := by rw [(bcell (fut wo X)).1 _ _ hl4]; exact v3
      have hl4' : b4 < X.heap.size := by omega
      clear v0 v1 v2 v3
      go_cut [10, 11] from 21 to 33 (fun g _ wx => ∃ g10 : Nat, g = .pointer (some ⟨g10, 0, none⟩) ∧ Blk wx g10 73 [.int .i64 rk, .int .i64 ri, .bool rb, .string rs] ∧ Step X wx)
      case first =>
        refine wp_region_held_drew (S := (fun w' => Step X w' ∧ (∀ b o, b < X.heap.size → w'.cell? ⟨b, o, none⟩ = X.cell? ⟨b, o, none⟩))) (by kernel_rfl) (by (try dsimp only); (first | exact ⟨hS1, hS2⟩ | exact ⟨Step.of, (bcell (fut _ _)).1⟩)) (fun hHeld => ?_)
        refine wpAnyH_take (i := 0) (oi := ⟨some 22, _, _, _, _, _⟩) (v := ?_) rfl (by kernel_rfl) (by kernel_rfl) (by kernel_rfl) (fun _ _ _ h => h) (Or.inl ⟨by rfl, ?_⟩) (by assumption) ?_
        rotate_left
        · ((intro w hSw); (try dsimp only at hSw); go_simp; (try with_reducible rfl))
        (try simp only [Act.put, List.setIfInBounds_toArray, List.set_cons_zero, List.set_cons_succ])
        refine wpAnyH_take (i := 1) (oi := ⟨some 23, _, _, _, _, _⟩) (v := ?_) rfl (by kernel_rfl) (by kernel_rfl) (by kernel_rfl) (fun _ _ _ h => h) (Or.inl ⟨by rfl, ?_⟩) (by assumption) ?_
        rotate_left
        · ((intro w hSw); (try dsimp only at hSw); go_simp; (try with_reducible rfl))
        (try simp only [Act.put, List.setIfInBounds_toArray, List.set_cons_zero, List.set_cons_succ])
        refine wpAnyH_take (i := 3) (oi := ⟨some 25, _, _, _, _, _⟩) (v := ?_) rfl (by kernel_rfl) (by kernel_rfl) (by kernel_rfl) (fun _ _ _ h => h) (Or.inl ⟨by rfl, ?_⟩) (by assumption) ?_
        rotate_left
        · ((intro w hSw); (try dsimp only at hSw); go_simp; (try with_reducible rfl))
        (try simp only [Act.put, List.setIfInBounds_toArray, List.set_cons_zero, List.set_cons_succ])
        refine wpAnyH_take (i := 4) (oi := ⟨some 26, _, _, _, _, _⟩) (v := ?_) rfl (by kernel_rfl) (by kernel_rfl) (by kernel_rfl) (fun _ _ _ h => h) (Or.inl ⟨by rfl, ?_⟩) (by assumption) ?_
        rotate_left
        · ((intro w hSw); (try dsimp only at hSw); go_simp; (try with_reducible rfl))
        (try simp only [Act.put, List.setIfInBounds_toArray, List.set_cons_zero, List.set_cons_succ])
        refine wpAnyH_take (i := 2) (oi := ⟨some 24, _, _, _, _, _⟩) (v := ?_) rfl (by kernel_rfl) (by kernel_rfl) (by kernel_rfl) (fun _ _ _ h => h) (Or.inl ⟨by rfl, ?_⟩) (by assumption) ?_
        rotate_left
        · ((intro w hSw); (try dsimp only at hSw); go_simp; (try with_reducible rfl))
        (try simp only [Act.put, List.setIfInBounds_toArray, List.set_cons_zero, List.set_cons_succ])
        refine wpAnyH_take (i := 5) (oi := ⟨some 27, _, _, _, _, _⟩) (v := ?_) rfl (by kernel_rfl) (by kernel_rfl) (by kernel_rfl) (fun _ _ _ h => h) (Or.inl ⟨by rfl, ?_⟩) (by assumption) ?_
        rotate_left
        · ((intro w hSw); (try dsimp only at hSw); go_simp; (try with_reducible rfl))
        (try simp only [Act.put, List.setIfInBounds_toArray, List.set_cons_zero, List.set_cons_succ])
        refine wpAnyH_ready (rs := [6, 13]) (by kernel_rfl) (by simp) ?_
        refine AllReadyH.cons (o := ⟨some 28, _, _, _, _, _⟩) rfl (fun K hK => ?_) (AllReadyH.cons (o := ⟨some 10, _, _, _, _, _⟩) rfl (fun K hK => ?_) AllReadyH.nil)
        · obtain ⟨hS1, hS2⟩ := hHeld
          go_simp
          (go_at_call 93; (with_reducible refine (FD.out _).mono ?_); rintro e w5 ⟨rfl, hs5⟩; (first | (have b_ := HB10.out.fut (w' := w5); have f10 := b_.free; have l10 := b_.lt; obtain ⟨g0, g1, g2, g3⟩ := At.z4 b_.at0; clear b_) | skip))
          refine hK.out _ _ (by (try dsimp only); (first | exact ⟨hS1, hS2⟩ | exact ⟨Step.of, (bcell (fut _ _)).1⟩)) (fun hHeld => ?_)
          clear hK K
          (try simp only [Act.put, List.setIfInBounds_toArray, List.set_cons_zero, List.set_cons_succ])
          refine wpAnyH_take (i := 7) (oi := ⟨some 29, _, _, _, _, _⟩) (v := ?_) rfl (by kernel_rfl) (by kernel_rfl) (by kernel_rfl) (fun _ _ _ h => h) (Or.inl ⟨by rfl, ?_⟩) (by assumption) ?_
          rotate_left
          · ((intro w hSw); (try dsimp only at hSw); go_simp; (try with_reducible rfl))
          (try simp only [Act.put, List.setIfInBounds_toArray, List.set_cons_zero, List.set_cons_succ])
          refine wpAnyH_take (i := 8) (oi := ⟨some 30, _, _, _, _, _⟩) (v := ?_) rfl (by kernel_rfl) (by kernel_rfl) (by kernel_rfl) (fun _ _ _ h => h) (Or.inl ⟨by rfl, ?_⟩) (by assumption) ?_
          rotate_left
          · ((intro w hSw); (try dsimp only at hSw); go_simp; (try with_reducible rfl))
          (try simp only [Act.put, List.setIfInBounds_toArray, List.set_cons_zero, List.set_cons_succ])
          refine wpAnyH_ready (rs := [9, 13]) (by kernel_rfl) (by simp) ?_
          refine AllReadyH.cons (o := ⟨some 31, _, _, _, _, _⟩) rfl (fun K hK => ?_) (AllReadyH.cons (o := ⟨some 10, _, _, _, _, _⟩) rfl (fun K hK => ?_) AllReadyH.nil)
          · obtain ⟨hS1, hS2⟩ := hHeld
            go_simp
            (go_at_call 45; (with_reducible refine (AP.out _).mono ?_); rintro e w6 ⟨rfl, hs6⟩; (try clear f10 l10 g0 g1 g2 g3); (first | (have b_ := HB10.out.fut (w' := w6); have f10 := b_.free; have l10 := b_.lt; obtain ⟨g0, g1, g2, g3⟩ := At.z4 b_.at0; clear b_) | skip))
            refine hK.out _ _ (by (try dsimp only); (first | exact ⟨hS1, hS2⟩ | exact ⟨Step.of, (bcell (fut _ _)).1⟩)) (fun hHeld => ?_)
            clear hK K
            (try simp only [Act.put, List.setIfInBounds_toArray, List.set_cons_zero, List.set_cons_succ])
            refine wpAnyH_take (i := 10) (oi := ⟨some 21, _, _, _, _, _⟩) (v := ?_) rfl (by kernel_rfl) (by kernel_rfl) (by kernel_rfl) (fun _ _ _ h => h) (Or.inl ⟨by rfl, ?_⟩) (by assumption) ?_
            rotate_left
            · ((intro w hSw); (try dsimp only at hSw); go_simp; (try with_reducible rfl))
            (try simp only [Act.put, List.setIfInBounds_toArray, List.set_cons_zero, List.set_cons_succ])
            refine wpAnyH_take (i := 11) (oi := ⟨some 32, _, _, _, _, _⟩) (v := ?_) rfl (by kernel_rfl) (by kernel_rfl) (by kernel_rfl) (fun _ _ _ h => h) (Or.inl ⟨by rfl, ?_⟩) (by assumption) ?_
            rotate_left
            · ((intro w hSw); (try dsimp only at hSw); go_simp; (try with_reducible rfl))
            (try simp only [Act.put, List.setIfInBounds_toArray, List.set_cons_zero, List.set_cons_succ])
            refine wpAnyH_take (i := 12) (oi := ⟨some 33, _, _, _, _, _⟩) (v := ?_) rfl (by kernel_rfl) (by kernel_rfl) (by kernel_rfl) (fun _ _ _ h => h) (Or.inl ⟨by rfl, ?_⟩) (by assumption) ?_
            rotate_left
            · ((intro w hSw); (try dsimp only at hSw); go_simp; (try with_reducible rfl))
            (try simp only [Act.put, List.setIfInBounds_toArray, List.set_cons_zero, List.set_cons_succ])
            refine wpAnyH_ready (rs := [13]) (by kernel_rfl) (by simp) ?_
            refine AllReadyH.cons (o := ⟨some 10, _, _, _, _, _⟩) rfl (fun K hK => ?_) AllReadyH.nil
            (go_simp; first | have HB10 := hide (Blk.new w6 [.int .i64 0, .int .i64 0, .bool false, .string ⟨#[]⟩] 73) | have HB10 := hide (Blk.new w5 [.int .i64 0, .int .i64 0, .bool false, .string ⟨#[]⟩] 73) | have HB10 := hide (Blk.new X [.int .i64 0, .int .i64 0, .bool false, .string ⟨#[]⟩] 73))
            refine hK.out _ _ (by (try dsimp only); (exact ⟨Step.of, (bcell (fut _ _)).1⟩)) (fun hHeld => ?_)
            clear hK K
            (try simp only [Act.put, List.setIfInBounds_toArray, List.set_cons_zero, List.set_cons_succ])
            refine wpAnyH_ready (rs := [14]) (by kernel_rfl) (by simp) ?_
            refine AllReadyH.cons (o := ⟨none, _, _, _, _, _⟩) rfl (fun K hK => ?_) AllReadyH.nil
            go_simp
            refine hK.out _ _ (by (try dsimp only); (exact ⟨Step.of, (bcell (fut _ _)).1⟩)) (fun hHeld => ?_)
            clear hK K
            (try simp only [Act.put, List.setIfInBounds_toArray, List.set_cons_zero, List.set_cons_succ])
            refine wpAnyH_take (i := 15) (oi := ⟨some 11, _, _, _, _, _⟩) (v := ?_) rfl (by kernel_rfl) (by kernel_rfl) (by kernel_rfl) (fun _ _ _ h => h) (Or.inl ⟨by rfl, ?_⟩) (by assumption) ?_
            rotate_left
            · ((intro w hSw); (try dsimp only at hSw); go_simp; (try with_reducible rfl))
            (try simp only [Act.put, List.setIfInBounds_toArray, List.set_cons_zero, List.set_cons_succ])
            refine wpAnyH_done (by kernel_rfl) ?_ _
            go_wp2_with fail
            go_meet
            case rel => first | exact ⟨_, rfl, Blk.new w6 [.int .i64 rk, .int .i64 ri, .bool rb, .string rs] 73, Step.of⟩ | exact ⟨_, rfl, (((HB10.out.set_ 0 (.int .i64 rk)).set_ 1 (.int .i64 ri)).set_ 2 (.bool rb)).set_ 3 (.string rs), Step.of⟩ | exact ⟨_, rfl, ((((HB10.out.fut (w' := w6)).set_ 0 (.int .i64 rk)).set_ 1 (.int .i64 ri)).set_ 2 (.bool rb)).set_ 3 (.string rs), Step.of⟩
          · (go_simp; first | have HB10 := hide (Blk.new w6 [.int .i64 0, .int .i64 0, .bool false, .string ⟨#[]⟩] 73) | have HB10 := hide (Blk.new w5 [.int .i64 0, .int .i64 0, .bool false, .string ⟨#[]⟩] 73) | have HB10 := hide (Blk.new X [.int .i64 0, .int .i64 0, .bool false, .string ⟨#[]⟩] 73))
            refine hK.out _ _ (by (try dsimp only); (exact ⟨Step.of, (bcell (fut _ _)).1⟩)) (fun hHeld => ?_)
            clear hK K
            (try simp only [Act.put, List.setIfInBounds_toArray, List.set_cons_zero, List.set_cons_succ])
            refine wpAnyH_ready (rs := [9]) (by kernel_rfl) (by simp) ?_
            refine AllReadyH.cons (o := ⟨some 31, _, _, _, _, _⟩) rfl (fun K hK => ?_) AllReadyH.nil
            obtain ⟨hS1, hS2⟩ := hHeld
            go_simp
            (go_at_call 45; (with_reducible refine (AP.out _).mono ?_); rintro e w6 ⟨rfl, hs6⟩; (try clear f10 l10 g0 g1 g2 g3); (first | (have b_ := HB10.out.fut (w' := w6); have f10 := b_.free; have l10 := b_.lt; obtain ⟨g0, g1, g2, g3⟩ := At.z4 b_.at0; clear b_) | skip))
            refine hK.out _ _ (by (try dsimp only); (first | exact ⟨hS1, hS2⟩ | exact ⟨Step.of, (bcell (fut _ _)).1⟩)) (fun hHeld => ?_)
            clear hK K
            (try simp only [Act.put, List.setIfInBounds_toArray, List.set_cons_zero, List.set_cons_succ])
            refine wpAnyH_take (i := 10) (oi := ⟨some 21, _, _, _, _, _⟩) (v := ?_) rfl (by kernel_rfl) (by kernel_rfl) (by kernel_rfl) (fun _ _ _ h => h) (Or.inl ⟨by rfl, ?_⟩) (by assumption) ?_
            rotate_left
            · ((intro w hSw); (try dsimp only at hSw); go_simp; (try with_reducible rfl))
            (try simp only [Act.put, List.setIfInBounds_toArray, List.set_cons_zero, List.set_cons_succ])
            refine wpAnyH_take (i := 11) (oi := ⟨some 32, _, _, _, _, _⟩) (v := ?_) rfl (by kernel_rfl) (by kernel_rfl) (by kernel_rfl) (fun _ _ _ h => h) (Or.inl ⟨by rfl, ?_⟩) (by assumption) ?_
            rotate_left
            · ((intro w hSw); (try dsimp only at hSw); go_simp; (try with_reducible rfl))
            (try simp only [Act.put, List.setIfInBounds_toArray, List.set_cons_zero, List.set_cons_succ])
            refine wpAnyH_take (i := 12) (oi := ⟨some 33, _, _, _, _, _⟩) (v := ?_) rfl (by kernel_rfl) (by kernel_rfl) (by kernel_rfl) (fun _ _ _ h => h) (Or.inl ⟨by rfl, ?_⟩) (by assumption) ?_
            rotate_left
            · ((intro w hSw); (try dsimp only at hSw); go_simp; (try with_reducible rfl))
            (try simp only [Act.put, List.setIfInBounds_toArray, List.set_cons_zero, List.set_cons_succ])
            refine wpAnyH_ready (rs := [14]) (by kernel_rfl) (by simp) ?_
            refine AllReadyH.cons (o := ⟨none, _, _, _, _, _⟩) rfl (fun K hK => ?_) AllReadyH.nil
            go_simp
            refine hK.out _ _ (by (try dsimp only); (exact ⟨Step.of, (bcell (fut _ _)).1⟩)) (fun hHeld => ?_)
            clear hK K
            (try simp only [Act.put, List.setIfInBounds_toArray, List.set_cons_zero, List.set_cons_succ])
            refine wpAnyH_take (i := 15) (oi := ⟨some 11, _, _, _, _, _⟩) (v := ?_) rfl (by kernel_rfl) (by kernel_rfl) (by kernel_rfl) (fun _ _ _ h => h) (Or.inl ⟨by rfl, ?_⟩) (by assumption) ?_
            rotate_left
            · ((intro w hSw); (try dsimp only at hSw); go_simp; (try with_reducible rfl))
            (try simp only [Act.put, List.setIfInBounds_toArray, List.set_cons_zero, List.set_cons_succ])
            refine wpAnyH_done (by kernel_rfl) ?_ _
            go_wp2_with fail
            go_meet
            case rel => first | exact ⟨_, rfl, Blk.new w6 [.int .i64 rk, .int .i64 ri, .bool rb, .string rs] 73, Step.of⟩ | exact ⟨_, rfl, (((HB10.out.set_ 0 (.int .i64 rk)).set_ 1 (.int .i64 ri)).set_ 2 (.bool rb)).set_ 3 (.string rs), Step.of⟩ | exact ⟨_, rfl, ((((HB10.out.fut (w' := w6)).set_ 0 (.int .i64 rk)).set_ 1 (.int .i64 ri)).set_ 2 (.bool rb)).set_ 3 (.string rs), Step.of⟩
        · (go_simp; first | have HB10 := hide (Blk.new w6 [.int .i64 0, .int .i64 0, .bool false, .string ⟨#[]⟩] 73) | have HB10 := hide (Blk.new w5 [.int .i64 0, .int .i64 0, .bool false, .string ⟨#[]⟩] 73) | have HB10 := hide (Blk.new X [.int .i64 0, .int .i64 0, .bool false, .string ⟨#[]⟩] 73))
          refine hK.out _ _ (by (try dsimp only); (exact ⟨Step.of, (bcell (fut _ _)).1⟩)) (fun hHeld => ?_)
          clear hK K
          (try simp only [Act.put, List.setIfInBounds_toArray, List.set_cons_zero, List.set_cons_succ])
          refine wpAnyH_ready (rs := [6]) (by kernel_rfl) (by simp) ?_
          refine AllReadyH.cons (o := ⟨some 28, _, _, _, _, _⟩) rfl (fun K hK => ?_) AllReadyH.nil
          obtain ⟨hS1, hS2⟩ := hHeld
          go_simp
          (go_at_call 93; (with_reducible refine (FD.out _).mono ?_); rintro e w5 ⟨rfl, hs5⟩; (first | (have b_ := HB10.out.fut (w' := w5); have f10 := b_.free; have l10 := b_.lt; obtain ⟨g0, g1, g2, g3⟩ := At.z4 b_.at0; clear b_) | skip))
          refine hK.out _ _ (by (try dsimp only); (first | exact ⟨hS1, hS2⟩ | exact ⟨Step.of, (bcell (fut _ _)).1⟩)) (fun hHeld => ?_)
          clear hK K
          (try simp only [Act.put, List.setIfInBounds_toArray, List.set_cons_zero, List.set_cons_succ])
          refine wpAnyH_take (i := 7) (oi := ⟨some 29, _, _, _, _, _⟩) (v := ?_) rfl (by kernel_rfl) (by kernel_rfl) (by kernel_rfl) (fun _ _ _ h => h) (Or.inl ⟨by rfl, ?_⟩) (by assumption) ?_
          rotate_left
          · ((intro w hSw); (try dsimp only at hSw); go_simp; (try with_reducible rfl))
          (try simp only [Act.put, List.setIfInBounds_toArray, List.set_cons_zero, List.set_cons_succ])
          refine wpAnyH_take (i := 8) (oi := ⟨some 30, _, _, _, _, _⟩) (v := ?_) rfl (by kernel_rfl) (by kernel_rfl) (by kernel_rfl) (fun _ _ _ h => h) (Or.inl ⟨by rfl, ?_⟩) (by assumption) ?_
          rotate_left
          · ((intro w hSw); (try dsimp only at hSw); go_simp; (try with_reducible rfl))
          (try simp only [Act.put, List.setIfInBounds_toArray, List.set_cons_zero, List.set_cons_succ])
          refine wpAnyH_ready (rs := [9]) (by kernel_rfl) (by simp) ?_
          refine AllReadyH.cons (o := ⟨some 31, _, _, _, _, _⟩) rfl (fun K hK => ?_) AllReadyH.nil
          obtain ⟨hS1, hS2⟩ := hHeld
          go_simp
          (go_at_call 45; (with_reducible refine (AP.out _).mono ?_); rintro e w6 ⟨rfl, hs6⟩; (try clear f10 l10 g0 g1 g2 g3); (first | (have b_ := HB10.out.fut (w' := w6); have f10 := b_.free; have l10 := b_.lt; obtain ⟨g0, g1, g2, g3⟩ := At.z4 b_.at0; clear b_) | skip))
          refine hK.out _ _ (by (try dsimp only); (first | exact ⟨hS1, hS2⟩ | exact ⟨Step.of, (bcell (fut _ _)).1⟩)) (fun hHeld => ?_)
          clear hK K
          (try simp only [Act.put, List.setIfInBounds_toArray, List.set_cons_zero, List.set_cons_succ])
          refine wpAnyH_take (i := 10) (oi := ⟨some 21, _, _, _, _, _⟩) (v := ?_) rfl (by kernel_rfl) (by kernel_rfl) (by kernel_rfl) (fun _ _ _ h => h) (Or.inl ⟨by rfl, ?_⟩) (by assumption) ?_
          rotate_left
          · ((intro w hSw); (try dsimp only at hSw); go_simp; (try with_reducible rfl))
          (try simp only [Act.put, List.setIfInBounds_toArray, List.set_cons_zero, List.set_cons_succ])
          refine wpAnyH_take (i := 11) (oi := ⟨some 32, _, _, _, _, _⟩) (v := ?_) rfl (by kernel_rfl) (by kernel_rfl) (by kernel_rfl) (fun _ _ _ h => h) (Or.inl ⟨by rfl, ?_⟩) (by assumption) ?_
          rotate_left
          · ((intro w hSw); (try dsimp only at hSw); go_simp; (try with_reducible rfl))
          (try simp only [Act.put, List.setIfInBounds_toArray, List.set_cons_zero, List.set_cons_succ])
          refine wpAnyH_take (i := 12) (oi := ⟨some 33, _, _, _, _, _⟩) (v := ?_) rfl (by kernel_rfl) (by kernel_rfl) (by kernel_rfl) (fun _ _ _ h => h) (Or.inl ⟨by rfl, ?_⟩) (by assumption) ?_
          rotate_left
          · ((intro w hSw); (try dsimp only at hSw); go_simp; (try with_reducible rfl))
          (try simp only [Act.put, List.setIfInBounds_toArray, List.set_cons_zero, List.set_cons_succ])
          refine wpAnyH_ready (rs := [14]) (by kernel_rfl) (by simp) ?_
          refine AllReadyH.cons (o := ⟨none, _, _, _, _, _⟩) rfl (fun K hK => ?_) AllReadyH.nil
          go_simp
          refine hK.out _ _ (by (try dsimp only); (exact ⟨Step.of, (bcell (fut _ _)).1⟩)) (fun hHeld => ?_)
          clear hK K
          (try simp only [Act.put, List.setIfInBounds_toArray, List.set_cons_zero, List.set_cons_succ])
          refine wpAnyH_take (i := 15) (oi := ⟨some 11, _, _, _, _, _⟩) (v := ?_) rfl (by kernel_rfl) (by kernel_rfl) (by kernel_rfl) (fun _ _ _ h => h) (Or.inl ⟨by rfl, ?_⟩) (by assumption) ?_
          rotate_left
          · ((intro w hSw); (try dsimp only at hSw); go_simp; (try with_reducible rfl))
          (try simp only [Act.put, List.setIfInBounds_toArray, List.set_cons_zero, List.set_cons_succ])
          refine wpAnyH_done (by kernel_rfl) ?_ _
          go_wp2_with fail
          go_meet
          case rel => first | exact ⟨_, rfl, Blk.new w6 [.int .i64 rk, .int .i64 ri, .bool rb, .string rs] 73, Step.of⟩ | exact ⟨_, rfl, (((HB10.out.set_ 0 (.int .i64 rk)).set_ 1 (.int .i64 ri)).set_ 2 (.bool rb)).set_ 3 (.string rs), Step.of⟩ | exact ⟨_, rfl, ((((HB10.out.fut (w' := w6)).set_ 0 (.int .i64 rk)).set_ 1 (.int .i64 ri)).set_ 2 (.bool rb)).set_ 3 (.string rs), Step.of⟩
      case rest =>
        obtain ⟨g10, rfl, hg10, hsX⟩ := hcut
        obtain ⟨Y, rfl⟩ : ∃ x : World, x = wc := ⟨_, rfl⟩
        clear y0 y1 y2 ly r0 lr v0' v1' v2' v3' hl4'
        have zY := hsX.size
        obtain ⟨x0, x1, x2, x3⟩ := At.z4 hg10.at0; have lg := hg10.lt
        have HOW := hide ((HO.out.fut (w' := Y)).alloc (.cells #[.int .i64 rk, .int .i64 ri, .bool rb, .string rs] 73))
        have HNew := hide (SlAt.one Y 4 [.int .i64 rk, .int .i64 ri, .bool rb, .string rs] 73)
        clear hg10
        go_wp2_with (at_builtin; go_loud (refine wpList_append_sl rfl (.tmp 34) (.tmp 36) 68 rfl eiV4 (base := W.heap.size) (xs := (partT s (fs.take k) vs).map Val.cells) rfl HOW.out (vals_fit _) (ys := [[.int .i64 rk, .int .i64 ri, .bool rb, .string rs]]) rfl (by simp) HNew.out (vals_fit [⟨rk, ri, rb, rs⟩]) (by rw [HLN.out]; show (k + 1) * 40 ≤ _; omega) (fut W (Y.alloc (.cells #[.int .i64 rk, .int .i64 ri, .bool rb, .string rs] 73))).size (N := k + 1) (by rw [HLN.out]; rfl) ?_; intro A7 c7 w7 hq1 hq2 hown7 hgr7 hbel7; have H7 := hide hown7; have HB7 := hide hbel7; clear hown7 hgr7 hbel7))
        go_roundw
        case rel =>
          refine ⟨k + 1, A7, c7, by omega, by go_num, rfl, ?_, ⟨(fut W (Y.alloc (.cells #[.int .i64 rk, .int .i64 ri, .bool rb, .string rs] 73))).trans HB7.out⟩⟩
          rw [HPS.out, List.map_append]
          exact H7.out
        case measure => simp [intOf]; omega
    · obtain rfl : k = fs.length := by omega
      rw [List.take_length] at HO
      go_wp2_with fail
      go_ret
      exact ⟨A', c', rfl, HO.out.more hzW, Step.of⟩
def partR (id : Int) (fs : List Fld) (s : Sch) (vs : List Val) : List Val × Int := if specB id fs s = true ∧ rowB s vs = true then (partT s fs vs, 0) else ([], 1300)
set_option maxRecDepth 100000 in
set_option maxHeartbeats 8000000 in
theorem pPart_any {w1 w2 w3 : World} (id : Int) (fs : List Fld) (Af : Option Addr) (cf : Nat) (s : Sch) (As : Option Addr) (cs : Nat) (vs : List Val) (Av : Option Addr) (cv : Nat) (w : World)
    (hf : FsIn w1 fs Af cf) (hs : SchIn w2 s As cs) (hv : SlAt w3 w3.heap.size 4 Av (vs.map Val.cells)) [f1 : Fut w1 w] [f2 : Fut w2 w] [f3 : Fut w3 w] (hfine : ∀ v ∈ vs, FineV v) (hvl : vs.length ≤ 4611686018427387904) :
    Calls Tryd.prog 52 #[.agg #[.int .i64 id, .slice Af fs.length cf], .agg #[.int .i64 s.id, .slice As s.cols.length cs, .int .i64 s.next], .agg #[.slice Av vs.length cv]] w fun e w' => ∃ (A' : Option Addr) (c' : Nat), e = .returned (.tuple #[.slice A' (partR id fs s vs).1.length c', .int .i64 (partR id fs s vs).2]) ∧ Own w' w.heap.size 73 4 (.slice A' (partR id fs s vs).1.length c') ((partR id fs s vs).1.map Val.cells) ∧ Step w w' := by
  obtain ⟨T, hT⟩ : ∃ T, partR id fs s vs = T := ⟨_, rfl⟩
  have HT := hide hT
  rw [hT]
  clear hT
  obtain ⟨W, hW⟩ : ∃ W, W = ((w.alloc (.cells #[.int .i64 id, .slice Af fs.length cf] 88)).alloc (.cells #[.int .i64 s.id, .slice As s.cols.length cs, .int .i64 s.next] 24)).alloc (.cells #[.slice Av vs.length cv] 70) := ⟨_, rfl⟩
  have SW : Step w W := by rw [hW]; exact Step.of
  have HPB : Hid (Blk W w.heap.size 88 [.int .i64 id, .slice Af fs.length cf]) := by rw [hW]; exact ((Blk.new w [.int .i64 id, .slice Af fs.length cf] 88).alloc _).alloc _
  have HSB : Hid (Blk W (w.heap.size + 1) 24 [.int .i64 s.id, .slice As s.cols.length cs, .int .i64 s.next]) := by rw [hW]; exact (Blk.new_at (by simp) [.int .i64 s.id, .slice As s.cols.length cs, .int .i64 s.next] 24).alloc _
  have HRB : Hid (Blk W (w.heap.size + 1 + 1) 70 [.slice Av vs.length cv]) := by rw [hW]; exact Blk.new_at (by simp) [.slice Av vs.length cv] 70
  have HW := hide hW
  have hzW := SW.size
  clear hW
  have MS := hide (fun w' [Fut w1 w'] [Fut w2 w'] => pspec_any id fs Af cf s As cs w' hf hs)
  unfold Sch.val at MS
  have HFN := hide hfine
  clear hfine
  have HS3 := hide (hs.fut (w' := W))
  cases hsp : specB id fs s with
  | false =>
    have hE : Hid (T = ([], 1300)) := by show _ = _; rw [← HT.out, partR, if_neg (by rw [hsp]; simp)]
    rw [hsp] at MS
    clear hsp
    go_enter Tryd.func52, Tryd.ntmps52
    go_wp2_with (go_at_call 50; (with_reducible refine (MS.out _).mono ?_); rintro e w4 ⟨rfl, hs4⟩)
    go_ret2
    exact ⟨none, 0, by rw [hE.out]; rfl, by rw [hE.out]; exact Own.nil_ _ _ _ _, Step.of⟩
  | true =>
    have HSPB := hide hsp
    rw [hsp] at MS
    clear hsp
    have RW_ := hide (fun w' [Fut W w'] [Fut w3 w'] => prow_any (w.heap.size + 1) s As cs vs Av cv w' HSB.out HS3.out hv hvl)
    cases hrb : rowB s vs with
    | false =>
      have hE : Hid (T = ([], 1300)) := by show _ = _; rw [← HT.out, partR, if_neg (by rw [hrb]; simp)]
      rw [hrb] at RW_
      clear hrb
      go_enter Tryd.func52, Tryd.ntmps52
      go_wp2_with (first
        | (go_at_call 50; (with_reducible refine (MS.out _).mono ?_); rintro e w4 ⟨rfl, hs4⟩; rw [← HW.out] at hs4; have b_ := HRB.out.fut (w' := w4); have r0 := At.z1 b_.at0; have lr := b_.lt; clear b_)
        | (go_at_call 97; (with_reducible refine (RW_.out _).mono ?_); rintro e w5 ⟨rfl, hs5⟩))
      go_ret2
      exact ⟨none, 0, by rw [hE.out]; rfl, by rw [hE.out]; exact Own.nil_ _ _ _ _, Step.of⟩
    | true =>
      have hE : Hid (T = (partT s fs vs, 0)) := by show _ = _; rw [← HT.out, partR, if_pos ⟨HSPB.out, hrb⟩]
      have HRWB := hide hrb
      rw [hrb] at RW_
      clear hrb
      have PT := hide (fun w' [Fut W w'] [Fut w1 w'] [Fut w2 w'] [Fut w3 w'] => ppart_any w.heap.size (w.heap.size + 1) id fs Af cf s As cs vs Av cv w' HPB.out HSB.out hf hs hv HFN.out HSPB.out HRWB.out)
      go_enter Tryd.func52, Tryd.ntmps52
      go_wp2_with (first
        | (go_at_call 50; (with_reducible refine (MS.out _).mono ?_); rintro e w4 ⟨rfl, hs4⟩; rw [← HW.out] at hs4; have b_ := HRB.out.fut (w' := w4); have r0 := At.z1 b_.at0; have lr := b_.lt; clear b_)
        | (go_at_call 97; (with_reducible refine (RW_.out _).mono ?_); rintro e w5 ⟨rfl, hs5⟩; clear r0 lr; have b_ := HRB.out.fut (w' := w5); have r0 := At.z1 b_.at0; have lr := b_.lt; clear b_)
        | (go_at_call 98; (with_reducible refine (PT.out _).mono ?_); intro e w6 hr6; obtain ⟨A6, c6, rfl, ho6, hs6⟩ := hr6; have HO6 := hide ho6; clear ho6; have hz6 := (fut W w5).size))
      go_ret2
      exact ⟨A6, c6, by rw [hE.out]; show _ = Ending.returned (.tuple #[.slice A6 (partT s fs vs).length c6, _]); rw [partT_len]; rfl, by rw [hE.out]; show Own _ _ _ _ (.slice A6 (partT s fs vs).length c6) _; rw [partT_len]; exact HO6.out.more (by omega), Step.of⟩
end Go.Proofs.YtfojdjmeefglcaaDoor
