/-
  The program's truth of a row.
-/
import Derived.Test.YtafgfehjdbomfaaDoorPk
import Derived.Test.YtafgfehjdbomfaaDoorPn
import Derived.Test.YtafgfehjdbomfaaDoorRw
import Derived.Test.YtafgfehjdbomfaaDoorPrL
namespace Go.Proofs.YtafgfehjdbomfaaDoor
open Go.RowKit

set_option maxRecDepth 100000 in
set_option maxHeartbeats 16000000 in
theorem pof_any {w0 w1 w2 : World} (gp gs : Nat) (ns : List Nod) (A : Option Addr) (cap : Nat) (s : Sch) (As : Option Addr) (cs : Nat) (vs : List Val) (Av : Option Addr) (cv : Nat) (w : World) (hp : PrIn w0 ns A cap) (hs : SchIn w1 s As cs)
    (hv : SlAt w2 w2.heap.size 4 Av (vs.map Val.cells)) [f0 : Fut w0 w] [f1 : Fut w1 w] [f2 : Fut w2 w] (hbp : Blk w gp 24 [.slice A ns.length cap]) (hbs : Blk w gs 27 [.int .i64 s.id, .slice As s.cols.length cs, .int .i64 s.next])
    (hck : checkE ns s = 0) (hvl : vs.length = s.cols.length) :
    Calls Tryd.prog 72 #[.pointer (some ⟨gp, 0, none⟩), .pointer (some ⟨gs, 0, none⟩), .agg #[.slice Av vs.length cv]] w fun e w' => e = .returned (.int .i64 (lastT (evalT s vs ns))) ∧ Step w w' := by
  have hl := hp.len
  have hls := hs.len
  have z0 := f0.below.size; have z1 := f1.below.size; have z2 := f2.below.size
  have CK := hide hck; have VL := hide hvl
  clear hck hvl
  have lgp := hbp.lt; have lgs := hbs.lt
  have HP := hide hbp; have HS := hide hbs
  have p0 := At.z1 (hbp.alloc (.cells #[.slice Av vs.length cv] 54)).at0
  clear hbp hbs
  have h24 : ns.length ≤ 24 := (predB_iff.1 (checkE_inv CK.out).1).1
  have HRB := hide (Blk.new w [.slice Av vs.length cv] 54)
  obtain ⟨W, hW⟩ : ∃ W, W = w.alloc (.cells #[.slice Av vs.length cv] 54) := ⟨_, rfl⟩
  have SW : Step w W := by rw [hW]; exact Step.of
  have HPW : Hid (Blk W gp 24 [.slice A ns.length cap]) := by rw [hW]; exact HP.out.alloc _
  have HSW : Hid (Blk W gs 27 [.int .i64 s.id, .slice As s.cols.length cs, .int .i64 s.next]) := by rw [hW]; exact HS.out.alloc _
  have HRW : Hid (Blk W w.heap.size 54 [.slice Av vs.length cv]) := by rw [hW]; exact HRB.out
  have hzW : W.heap.size = w.heap.size + 1 := by rw [hW]; simp
  have HZ := hide hzW
  have HW := hide hW
  clear hW hzW HP HS HRB
  go_enter Tryd.func72, Tryd.ntmps72
  go_wp2
  rw [← HW.out]
  clear p0
  go_loopw [7, 8, 9, 10, 16] (fun last all _ _ i wr => ∃ (k : Nat) (A' : Option Addr) (c' : Nat), k ≤ ns.length ∧ i = .int .i64 k ∧ last = .int .i64 (lastT (evalT s vs (ns.take k))) ∧ all = .slice A' k c' ∧ Own wr W.heap.size 3 1 (.slice A' k c') (intCells (evalT s vs (ns.take k))) ∧ Step W wr) (fun _ _ _ _ i _ => ns.length - (intOf i).toNat)
  case atStart => exact ⟨0, none, 0, Nat.zero_le _, rfl, rfl, rfl, Own.nil_ _ _ _ _, Step.of⟩
  case round =>
    obtain ⟨k, A', c', hk, rfl, rfl, rfl, hown, hst⟩ := hrel
    have HO := hide hown; clear hown
    have hs1 := hst.size
    have hsz := HZ.out
    have lg0 : gp < wr.heap.size := by omega
    have lg1 : gs < wr.heap.size := by omega
    have lg2 : w.heap.size < wr.heap.size := by omega
    clear hsz
    have p0 := At.z1 (HPW.out.fut (w' := wr)).at0
    by_cases hlt : k < ns.length
    · obtain ⟨b, off, rfl, hb, n, hn, hat⟩ := hp.node (w' := wr) inferInstance hlt
      have hlb : b < wr.heap.size := by omega
      have HN := hide hn; clear hn
      have HAT := hide hat; clear hat
      have hkl : (k : Int) < (ns.length : Int) := by omega
      obtain ⟨x, HX, HTX⟩ : ∃ x, Hid (stepT s vs (evalT s vs (ns.take k)) n = x) ∧ Hid (evalT s vs (ns.take (k + 1)) = evalT s vs (ns.take k) ++ [x]) := ⟨_, rfl, evalT_take s vs ns k n HN.out⟩
      have HLN : Hid ((evalT s vs (ns.take k)).length = k) := by show _ = _; rw [evalT_len]; simp; omega
      obtain ⟨n0, n1, n2, n3, n4, n5, n6, n7, n8⟩ := At.l9 HAT.out
      go_upto_block 2 with (fail)
      go_cut [7, 48, 50, 67] from 29 to 87 (fun last _ _ _ wx => last = .int .i64 x ∧ Step wr wx)
      case first =>
        have hkinds := node_kinds CK.out HN.out
        rcases hkinds with h0 | h12 | ⟨h3, l, hl', hlk⟩ | ⟨h45, l, r, hl', hr', hlk, hrk⟩
        · have E := hide ((step_true h0).symm.trans HX.out)
          have e0 : (n.kind == 0) = true := by simpa using h0
          clear h0
          go_wp2_with fail
          go_meet
          case rel => exact ⟨by rw [← E.out], Step.of⟩
        · obtain ⟨j, hi, hj, hf⟩ := node_col CK.out HN.out h12
          obtain ⟨v, hvv⟩ : ∃ v, vs[j]? = some v := ⟨_, List.getElem?_eq_getElem (by have := VL.out; omega)⟩
          have E := hide ((step_leaf (acc := evalT s vs (ns.take k)) h12 hf hvv).symm.trans HX.out)
          obtain ⟨bv, ov, rfl, hbv, hcv⟩ := hv.elem (w' := wr) inferInstance (k := j) (by have := VL.out; simp; omega)
          obtain ⟨v0, v1, v2, v3⟩ := At.l4 (hcv j v.cells (by simp [hvv]))
          have hlv : bv < wr.heap.size := by omega
          have fd := fun w' [Fut w1 w'] => pfind s As cs n.col w' hs
          unfold Sch.val at fd
          rw [hi] at fd
          have FD := hide fd
          have lf := fun w' [Fut wr w'] => pleaf_any b (off + k * 9) n v w' HAT.out hlb h12
          unfold Val.val at lf
          have LF := hide lf
          have hj0 : (0 : Int) ≤ (j : Int) := by omega
          have hj1 : (j : Int) < (vs.length : Int) := by have := VL.out; omega
          obtain ⟨q0, q1, q2⟩ := At.z3 (HSW.out.fut (w' := wr)).at0
          have r0 := At.z1 (HRW.out.fut (w' := wr)).at0
          have e0 : (n.kind == 0) = false := by rcases h12 with h | h <;> simp [h]
          clear hcv hvv hi hf fd lf
          have h12' : (n.kind == 1) = true ∨ (n.kind == 1) = false ∧ (n.kind == 2) = true := by rcases h12 with h | h <;> simp [h]
          clear h12
          rcases h12' with e1 | ⟨e1, e2⟩
          all_goals
            go_upto_region 13 with (fail)
            refine wp_region_held_drew (S := (fun w' => Step wr w' ∧ (∀ b o, b < wr.heap.size → w'.cell? ⟨b, o, none⟩ = wr.cell? ⟨b, o, none⟩))) (by kernel_rfl) (by (try dsimp only); (first | exact ⟨hS1, hS2⟩ | exact ⟨Step.of, (bcell (fut _ _)).1⟩)) (fun hHeld => ?_)
            refine wpAnyH_take (i := 0) (oi := ⟨some 53, _, _, _, _, _⟩) (v := ?_) rfl (by kernel_rfl) (by kernel_rfl) (by kernel_rfl) (fun _ _ _ h => h) (Or.inl ⟨by rfl, ?_⟩) (by assumption) ?_
            rotate_left
            · ((intro w hSw); (try dsimp only at hSw); go_simp; (try with_reducible rfl))
            (try simp only [Act.put, List.setIfInBounds_toArray, List.set_cons_zero, List.set_cons_succ])
            refine wpAnyH_take (i := 1) (oi := ⟨some 54, _, _, _, _, _⟩) (v := ?_) rfl (by kernel_rfl) (by kernel_rfl) (by kernel_rfl) (fun _ _ _ h => h) (Or.inl ⟨by rfl, ?_⟩) (by assumption) ?_
            rotate_left
            · ((intro w hSw); (try dsimp only at hSw); go_simp; (try with_reducible rfl))
            (try simp only [Act.put, List.setIfInBounds_toArray, List.set_cons_zero, List.set_cons_succ])
            refine wpAnyH_take (i := 2) (oi := ⟨some 55, _, _, _, _, _⟩) (v := ?_) rfl (by kernel_rfl) (by kernel_rfl) (by kernel_rfl) (fun _ _ _ h => h) (Or.inl ⟨by rfl, ?_⟩) (by assumption) ?_
            rotate_left
            · ((intro w hSw); (try dsimp only at hSw); go_simp; (try with_reducible rfl))
            (try simp only [Act.put, List.setIfInBounds_toArray, List.set_cons_zero, List.set_cons_succ])
            refine wpAnyH_take (i := 3) (oi := ⟨some 56, _, _, _, _, _⟩) (v := ?_) rfl (by kernel_rfl) (by kernel_rfl) (by kernel_rfl) (fun _ _ _ h => h) (Or.inl ⟨by rfl, ?_⟩) (by assumption) ?_
            rotate_left
            · ((intro w hSw); (try dsimp only at hSw); go_simp; (try with_reducible rfl))
            (try simp only [Act.put, List.setIfInBounds_toArray, List.set_cons_zero, List.set_cons_succ])
            refine wpAnyH_take (i := 4) (oi := ⟨some 57, _, _, _, _, _⟩) (v := ?_) rfl (by kernel_rfl) (by kernel_rfl) (by kernel_rfl) (fun _ _ _ h => h) (Or.inl ⟨by rfl, ?_⟩) (by assumption) ?_
            rotate_left
            · ((intro w hSw); (try dsimp only at hSw); go_simp; (try with_reducible rfl))
            (try simp only [Act.put, List.setIfInBounds_toArray, List.set_cons_zero, List.set_cons_succ])
            refine wpAnyH_take (i := 5) (oi := ⟨some 58, _, _, _, _, _⟩) (v := ?_) rfl (by kernel_rfl) (by kernel_rfl) (by kernel_rfl) (fun _ _ _ h => h) (Or.inl ⟨by rfl, ?_⟩) (by assumption) ?_
            rotate_left
            · ((intro w hSw); (try dsimp only at hSw); go_simp; (try with_reducible rfl))
            (try simp only [Act.put, List.setIfInBounds_toArray, List.set_cons_zero, List.set_cons_succ])
            refine wpAnyH_take (i := 6) (oi := ⟨some 59, _, _, _, _, _⟩) (v := ?_) rfl (by kernel_rfl) (by kernel_rfl) (by kernel_rfl) (fun _ _ _ h => h) (Or.inl ⟨by rfl, ?_⟩) (by assumption) ?_
            rotate_left
            · ((intro w hSw); (try dsimp only at hSw); go_simp; (try with_reducible rfl))
            (try simp only [Act.put, List.setIfInBounds_toArray, List.set_cons_zero, List.set_cons_succ])
            refine wpAnyH_take (i := 7) (oi := ⟨some 60, _, _, _, _, _⟩) (v := ?_) rfl (by kernel_rfl) (by kernel_rfl) (by kernel_rfl) (fun _ _ _ h => h) (Or.inl ⟨by rfl, ?_⟩) (by assumption) ?_
            rotate_left
            · ((intro w hSw); (try dsimp only at hSw); go_simp; (try with_reducible rfl))
            (try simp only [Act.put, List.setIfInBounds_toArray, List.set_cons_zero, List.set_cons_succ])
            refine wpAnyH_take (i := 8) (oi := ⟨some 61, _, _, _, _, _⟩) (v := ?_) rfl (by kernel_rfl) (by kernel_rfl) (by kernel_rfl) (fun _ _ _ h => h) (Or.inl ⟨by rfl, ?_⟩) (by assumption) ?_
            rotate_left
            · ((intro w hSw); (try dsimp only at hSw); go_simp; (try with_reducible rfl))
            (try simp only [Act.put, List.setIfInBounds_toArray, List.set_cons_zero, List.set_cons_succ])
            refine wpAnyH_take (i := 9) (oi := ⟨some 62, _, _, _, _, _⟩) (v := ?_) rfl (by kernel_rfl) (by kernel_rfl) (by kernel_rfl) (fun _ _ _ h => h) (Or.inl ⟨by rfl, ?_⟩) (by assumption) ?_
            rotate_left
            · ((intro w hSw); (try dsimp only at hSw); go_simp; (try with_reducible rfl))
            (try simp only [Act.put, List.setIfInBounds_toArray, List.set_cons_zero, List.set_cons_succ])
            refine wpAnyH_ready (rs := [10]) (by kernel_rfl) (by simp) ?_
            refine AllReadyH.cons (o := ⟨some 63, _, _, _, _, _⟩) rfl (fun K hK => ?_) AllReadyH.nil
            obtain ⟨hS1, hS2⟩ := hHeld
            go_simp
            (go_at_call 54; (with_reducible refine (FD.out _).mono ?_); rintro e w' ⟨rfl, hq⟩)
            refine hK.out _ _ (by (try dsimp only); (first | exact ⟨hS1, hS2⟩ | exact ⟨Step.of, (bcell (fut _ _)).1⟩)) (fun hHeld => ?_)
            clear hK K
            (try simp only [Act.put, List.setIfInBounds_toArray, List.set_cons_zero, List.set_cons_succ])
            refine wpAnyH_take (i := 11) (oi := ⟨some 64, _, _, _, _, _⟩) (v := ?_) rfl (by kernel_rfl) (by kernel_rfl) (by kernel_rfl) (fun _ _ _ h => h) (Or.inl ⟨by rfl, ?_⟩) (by assumption) ?_
            rotate_left
            · ((intro w hSw); (try dsimp only at hSw); go_simp; (try with_reducible rfl))
            (try simp only [Act.put, List.setIfInBounds_toArray, List.set_cons_zero, List.set_cons_succ])
            refine wpAnyH_take (i := 12) (oi := ⟨some 65, _, _, _, _, _⟩) (v := ?_) rfl (by kernel_rfl) (by kernel_rfl) (by kernel_rfl) (fun _ _ _ h => h) (Or.inl ⟨by rfl, ?_⟩) (by assumption) ?_
            rotate_left
            · ((intro w hSw); (try dsimp only at hSw); go_simp; (try with_reducible rfl))
            (try simp only [Act.put, List.setIfInBounds_toArray, List.set_cons_zero, List.set_cons_succ])
            refine wpAnyH_ready (rs := [13]) (by kernel_rfl) (by simp) ?_
            refine AllReadyH.cons (o := ⟨some 66, _, _, _, _, _⟩) rfl (fun K hK => ?_) AllReadyH.nil
            obtain ⟨hS1, hS2⟩ := hHeld
            go_simp
            (go_at_call 67; (with_reducible refine (LF.out _).mono ?_); rintro e w' ⟨rfl, hq⟩)
            refine hK.out _ _ (by (try dsimp only); (first | exact ⟨hS1, hS2⟩ | exact ⟨Step.of, (bcell (fut _ _)).1⟩)) (fun hHeld => ?_)
            clear hK K
            (try simp only [Act.put, List.setIfInBounds_toArray, List.set_cons_zero, List.set_cons_succ])
            refine wpAnyH_take (i := 14) (oi := ⟨some 7, _, _, _, _, _⟩) (v := ?_) rfl (by kernel_rfl) (by kernel_rfl) (by kernel_rfl) (fun _ _ _ h => h) (Or.inl ⟨by rfl, ?_⟩) (by assumption) ?_
            rotate_left
            · ((intro w hSw); (try dsimp only at hSw); go_simp; (try with_reducible rfl))
            (try simp only [Act.put, List.setIfInBounds_toArray, List.set_cons_zero, List.set_cons_succ])
            refine wpAnyH_done (by kernel_rfl) ?_ _
            obtain ⟨hS1, hS2⟩ := hHeld
            go_wp2_with fail
            go_meet
            case rel => exact ⟨by rw [← E.out], Step.of⟩
        · obtain ⟨y, hy1, hy2, hy3⟩ := evalT_get (s := s) (vs := vs) hk hlk
          have E0 := (step_not h3 hl' hy2).symm.trans HX.out
          obtain ⟨bo, oo, rfl, hbo, hco⟩ := (HO.out.sl (int_fit _).len).elem (Fut.self _) (k := l) (by rw [intCells_len, HLN.out]; exact hlk)
          have c0 := At.l1 (hco l [.int .i64 y] (by simp [intCells, hy1]))
          simp only [Nat.mul_one] at c0
          rw [hl'] at n7
          have hl0 : (0 : Int) ≤ (l : Int) := by omega
          have hl1 : (l : Int) < (k : Int) := by omega
          have PJ := hide (fun w' => pjoin_any n.kind y y w' (.inl h3) hy3 hy3)
          have E : Hid (joinT n.kind y y = x) := by show _ = _; rw [h3]; exact E0
          have e0 : (n.kind == 0) = false := by simp [h3]
          have e1 : (n.kind == 1) = false := by simp [h3]
          have e2 : (n.kind == 2) = false := by simp [h3]
          have e3 : (n.kind == 3) = true := by simp [h3]
          clear h3 hl' hlk hy1 hy2 hy3 hco E0
          go_upto_region 15 with (fail)
          go_quiet ((go_at_call 103; exact Calls.quiet_of_same ((PJ.out _).mono fun _ _ h => ⟨h.1, h.2.symm⟩)))
          go_wp2_with fail
          go_meet
          case rel => exact ⟨by rw [← E.out], Step.of⟩
        · obtain ⟨y, hy1, hy2, hy3⟩ := evalT_get (s := s) (vs := vs) hk hlk
          obtain ⟨z, hz1, hz2, hz3⟩ := evalT_get (s := s) (vs := vs) hk hrk
          have E := hide ((step_two h45 hl' hr' hy2 hz2).symm.trans HX.out)
          obtain ⟨bo, oo, rfl, hbo, hco⟩ := (HO.out.sl (int_fit _).len).elem (Fut.self _) (k := l) (by rw [intCells_len, HLN.out]; exact hlk)
          have c0 := At.l1 (hco l [.int .i64 y] (by simp [intCells, hy1]))
          have d0 := At.l1 (hco r [.int .i64 z] (by simp [intCells, hz1]))
          simp only [Nat.mul_one] at c0 d0
          rw [hl'] at n7
          rw [hr'] at n8
          have hl0 : (0 : Int) ≤ (l : Int) := by omega
          have hl1 : (l : Int) < (k : Int) := by omega
          have hr0 : (0 : Int) ≤ (r : Int) := by omega
          have hr1 : (r : Int) < (k : Int) := by omega
          have PJ := hide (fun w' => pjoin_any n.kind y z w' (.inr h45) hy3 hz3)
          have e0 : (n.kind == 0) = false := by rcases h45 with h | h <;> simp [h]
          have e1 : (n.kind == 1) = false := by rcases h45 with h | h <;> simp [h]
          have e2 : (n.kind == 2) = false := by rcases h45 with h | h <;> simp [h]
          have e3 : (n.kind == 3) = false := by rcases h45 with h | h <;> simp [h]
          clear h45 hl' hr' hlk hrk hy1 hy2 hy3 hz1 hz2 hz3 hco
          go_upto_region 8 with (fail)
          go_quiet ((go_at_call 103; exact Calls.quiet_of_same ((PJ.out _).mono fun _ _ h => ⟨h.1, h.2.symm⟩)))
          go_wp2_with fail
          go_meet
          case rel => exact ⟨by rw [← E.out], Step.of⟩
      case rest =>
        obtain ⟨rfl, hsx⟩ := hcut
        clear p0 hlb HAT n0 n1 n2 n3 n4 n5 n6 n7 n8
        have hz5 := hsx.size
        have HNew := hide (SlAt.one wc 1 [.int .i64 x] 3)
        have HOw := hide ((HO.out.fut (w' := wc)).alloc (.cells #[.int .i64 x] 3))
        go_wp2_with (at_builtin; go_loud (refine wpList_append_sl rfl (.tmp 88) (.tmp 90) 29 rfl eiInt (base := W.heap.size) (xs := intCells (evalT s vs (ns.take k))) rfl HOw.out (int_fit _) (ys := [[.int .i64 x]]) rfl (by simp) HNew.out (int_fit [x]) (by rw [intCells_len, HLN.out]; simp; omega) (by simp; omega) (N := k + 1) (by rw [intCells_len, HLN.out]; rfl) ?_; intro A5 c5 w5 hq1 hq2 hown5 hgr5 hbel5; have H5 := hide hown5; have HB5 := hide hbel5; clear hown5 hgr5 hbel5))
        go_roundw
        case rel =>
          refine ⟨k + 1, A5, c5, by omega, by go_num, by rw [HTX.out, lastT_snoc], rfl, ?_, ⟨?_⟩⟩
          · rw [HTX.out]
            have := H5.out
            simpa [intCells] using this
          · exact (fut W (wc.alloc _)).trans HB5.out
        case measure => simp [intOf]; omega
    · obtain rfl : k = ns.length := by omega
      go_wp2_with fail
      go_ret
      exact ⟨ret_int (by rw [List.take_length]), Step.of⟩

set_option maxHeartbeats 4000000 in
theorem ptruthR_any {w0 w1 w2 : World} (ns : List Nod) (A : Option Addr) (cap : Nat) (s : Sch) (As : Option Addr) (cs : Nat) (vs : List Val) (Av : Option Addr) (cv : Nat) (w : World) (hp : PrIn w0 ns A cap) (hs : SchIn w1 s As cs)
    (hv : SlAt w2 w2.heap.size 4 Av (vs.map Val.cells)) [f0 : Fut w0 w] [f1 : Fut w1 w] [f2 : Fut w2 w] (hvl : vs.length ≤ 4611686018427387904) :
    Calls Tryd.prog 36 #[.agg #[.slice A ns.length cap], s.val As cs, .agg #[.slice Av vs.length cv]] w fun e w' => e = .returned (.tuple #[.int .i64 (truthR ns s vs).1, .int .i64 (truthR ns s vs).2]) ∧ Step w w' := by
  obtain ⟨T, hT⟩ : ∃ T, truthR ns s vs = T := ⟨_, rfl⟩
  have HT := hide hT
  rw [hT]
  clear hT
  have pc := fun w' [Fut w0 w'] [Fut w1 w'] => pcheck_any ns A cap s As cs w' hp hs
  unfold Sch.val at pc ⊢
  obtain ⟨W, hW⟩ : ∃ W, W = ((w.alloc (.cells #[.slice A ns.length cap] 24)).alloc (.cells #[.int .i64 s.id, .slice As s.cols.length cs, .int .i64 s.next] 27)).alloc (.cells #[.slice Av vs.length cv] 54) := ⟨_, rfl⟩
  have SW : Step w W := by rw [hW]; exact Step.of
  have HPW : Hid (Blk W w.heap.size 24 [.slice A ns.length cap]) := by rw [hW]; exact ((Blk.new w [.slice A ns.length cap] 24).alloc _).alloc _
  have HSW : Hid (Blk W (w.heap.size + 1) 27 [.int .i64 s.id, .slice As s.cols.length cs, .int .i64 s.next]) := by rw [hW]; exact (Blk.new_at (by simp) [.int .i64 s.id, .slice As s.cols.length cs, .int .i64 s.next] 27).alloc _
  have HRW : Hid (Blk W (w.heap.size + 2) 54 [.slice Av vs.length cv]) := by rw [hW]; exact Blk.new_at (by simp) [.slice Av vs.length cv] 54
  have HW := hide hW
  clear hW
  by_cases hc : checkE ns s = 0
  · have CK := hide hc
    rw [hc] at pc
    have PC := hide pc
    clear pc hc
    cases hrb : rowB s vs with
    | true =>
      have hE : Hid (T = (lastT (evalT s vs ns), 0)) := by show _ = _; rw [← HT.out, truthR, CK.out, if_neg (by simp), if_pos hrb]
      have hvl2 : vs.length = s.cols.length := by
        by_cases h : vs.length = s.cols.length
        · exact h
        · rw [rowB_len h] at hrb; cases hrb
      have VL := hide hvl2
      have RB := hide hrb
      clear hrb hvl2
      go_enter Tryd.func36, Tryd.ntmps36
      go_wp2_with fail
      refine (PC.out _).mono ?_
      rintro e w3 ⟨rfl, hs3⟩
      rw [← HW.out] at hs3
      have r0 := At.z1 (HRW.out.fut (w' := w3)).at0
      have lr := (HRW.out.fut (w' := w3)).lt
      go_wp2_with fail
      have pr := prow_any (w0 := w3) (w.heap.size + 1) s As cs vs Av cv w3 (HSW.out.fut (w' := w3)) hs.fut hv hvl
      rw [RB.out] at pr
      refine pr.mono ?_
      clear pr
      rintro e w4 ⟨rfl, hs4⟩
      clear r0 lr
      have r0 := At.z1 (HRW.out.fut (w' := w4)).at0
      have lr := (HRW.out.fut (w' := w4)).lt
      go_wp2_with fail
      refine (pof_any (w.heap.size) (w.heap.size + 1) ns A cap s As cs vs Av cv w4 hp hs hv (HPW.out.fut (w' := w4)) (HSW.out.fut (w' := w4)) CK.out VL.out).mono ?_
      rintro e w5 ⟨rfl, hs5⟩
      clear r0 lr
      go_wp2_with fail
      go_ret2
      exact ⟨by rw [hE.out]; rfl, Step.of⟩
    | false =>
      have hE : Hid (T = (0, 1500)) := by show _ = _; rw [← HT.out, truthR, CK.out, if_neg (by simp), if_neg (by simp [hrb])]
      have RB := hide hrb
      clear hrb
      go_enter Tryd.func36, Tryd.ntmps36
      go_wp2_with fail
      refine (PC.out _).mono ?_
      rintro e w3 ⟨rfl, hs3⟩
      rw [← HW.out] at hs3
      have r0 := At.z1 (HRW.out.fut (w' := w3)).at0
      have lr := (HRW.out.fut (w' := w3)).lt
      go_wp2_with fail
      have pr := prow_any (w0 := w3) (w.heap.size + 1) s As cs vs Av cv w3 (HSW.out.fut (w' := w3)) hs.fut hv hvl
      rw [RB.out] at pr
      refine pr.mono ?_
      clear pr
      rintro e w4 ⟨rfl, hs4⟩
      clear r0 lr
      go_wp2_with fail
      go_ret2
      exact ⟨by rw [hE.out]; rfl, Step.of⟩
  · have hE : Hid (T = (0, checkE ns s)) := by show _ = _; rw [← HT.out, truthR, if_pos hc]
    have hcb : (checkE ns s != 0) = true := by simpa using hc
    have PC := hide pc
    clear pc hc
    go_enter Tryd.func36, Tryd.ntmps36
    go_wp2_with fail
    refine (PC.out _).mono ?_
    rintro e w3 ⟨rfl, hs3⟩
    rw [← HW.out] at hs3
    go_wp2_with fail
    go_ret2
    exact ⟨by rw [hE.out]; rfl, Step.of⟩
end Go.Proofs.YtafgfehjdbomfaaDoor
