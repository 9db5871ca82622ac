/-
  Texts put together: Pt, Ga, Te, D7, FlFld.
-/
import Derived.Deep.RegionHeld3
import Derived.Deep.RegionLaw
import Derived.Deep.Cut
import Derived.Deep.CutBlock
import Derived.Test.YtnphokhehacfnaaGreatDoorCz01
import Derived.Test.YtnphokhehacfnaaGreatDoorCz02
import Derived.Test.YtnphokhehacfnaaGreatDoorCz03
import Derived.Test.YtnphokhehacfnaaGreatDoorCz04
import Derived.Test.YtnphokhehacfnaaGreatDoorCz05
namespace Go.Proofs.YtnphokhehacfnaaGreatDoor
open Go.RowKit

set_option maxRecDepth 100000 in
set_option maxHeartbeats 16000000 in
theorem pof_any {w0 w1 w2 : World} (gp gs : Nat) (ns : List Nod) (A : Option Addr) (cap : Nat) (s : Sch) (As : Option Addr) (cs : Nat) (vs : List Val) (Av : Option Addr) (cv : Nat) (w : World) (hp : PrIn w0 ns A cap) (hs : SchIn w1 s As cs)
    (hv : SlAt w2 w2.heap.size 4 Av (vs.map Val.cells)) [f0 : Fut w0 w] [f1 : Fut w1 w] [f2 : Fut w2 w] (hbp : Blk w gp 34 [.slice A ns.length cap]) (hbs : Blk w gs 24 [.int .i64 s.id, .slice As s.cols.length cs, .int .i64 s.next])
    (hck : checkE ns s = 0) (hvl : vs.length = s.cols.length) :
    Calls Tryz.prog 197 #[.pointer (some ⟨gp, 0, none⟩), .pointer (some ⟨gs, 0, none⟩), .agg #[.slice Av vs.length cv]] w fun e w' => e = .returned (.int .i64 (lastT (evalT s vs ns))) ∧ Step w w' := by
  have hl := hp.len
  have hls := hs.len
  have z0 := f0.below.size; have z1 := f1.below.size; have z2 := f2.below.size
  have CK := hide hck; have VL := hide hvl
  clear hck hvl
  have lgp := hbp.lt; have lgs := hbs.lt
  have HP := hide hbp; have HS := hide hbs
  have p0 := At.z1 (hbp.alloc (.cells #[.slice Av vs.length cv] 67)).at0
  clear hbp hbs
  have h24 : ns.length ≤ 24 := (predB_iff.1 (checkE_inv CK.out).1).1
  have HRB := hide (Blk.new w [.slice Av vs.length cv] 67)
  obtain ⟨W, hW⟩ : ∃ W, W = w.alloc (.cells #[.slice Av vs.length cv] 67) := ⟨_, rfl⟩
  have SW : Step w W := by rw [hW]; exact Step.of
  have HPW : Hid (Blk W gp 34 [.slice A ns.length cap]) := by rw [hW]; exact HP.out.alloc _
  have HSW : Hid (Blk W gs 24 [.int .i64 s.id, .slice As s.cols.length cs, .int .i64 s.next]) := by rw [hW]; exact HS.out.alloc _
  have HRW : Hid (Blk W w.heap.size 67 [.slice Av vs.length cv]) := by rw [hW]; exact HRB.out
  have hzW : W.heap.size = w.heap.size + 1 := by rw [hW]; simp
  have HZ := hide hzW
  have HW := hide hW
  clear hW hzW HP HS HRB
  go_enter Tryz.func197, Tryz.ntmps197
  go_wp2
  rw [← HW.out]
  clear p0
  go_loopw [7, 8, 9, 10, 16] (fun last all _ _ i wr => ∃ (k : Nat) (A' : Option Addr) (c' : Nat), k ≤ ns.length ∧ i = .int .i64 k ∧ last = .int .i64 (lastT (evalT s vs (ns.take k))) ∧ all = .slice A' k c' ∧ Own wr W.heap.size 3 1 (.slice A' k c') (intCells (evalT s vs (ns.take k))) ∧ Step W wr) (fun _ _ _ _ i _ => ns.length - (intOf i).toNat)
  case atStart => exact ⟨0, none, 0, Nat.zero_le _, rfl, rfl, rfl, Own.nil_ _ _ _ _, Step.of⟩
  case round =>
    obtain ⟨k, A', c', hk, rfl, rfl, rfl, hown, hst⟩ := hrel
    have HO := hide hown; clear hown
    have hs1 := hst.size
    have hsz := HZ.out
    have lg0 : gp < wr.heap.size := by omega
    have lg1 : gs < wr.heap.size := by omega
    have lg2 : w.heap.size < wr.heap.size := by omega
    clear hsz
    have p0 := At.z1 (HPW.out.fut (w' := wr)).at0
    by_cases hlt : k < ns.length
    · obtain ⟨b, off, rfl, hb, n, hn, hat⟩ := hp.node (w' := wr) inferInstance hlt
      have hlb : b < wr.heap.size := by omega
      have HN := hide hn; clear hn
      have HAT := hide hat; clear hat
      have hkl : (k : Int) < (ns.length : Int) := by omega
      obtain ⟨x, HX, HTX⟩ : ∃ x, Hid (stepT s vs (evalT s vs (ns.take k)) n = x) ∧ Hid (evalT s vs (ns.take (k + 1)) = evalT s vs (ns.take k) ++ [x]) := ⟨_, rfl, evalT_take s vs ns k n HN.out⟩
      have HLN : Hid ((evalT s vs (ns.take k)).length = k) := by show _ = _; rw [evalT_len]; simp; omega
      obtain ⟨n0, n1, n2, n3, n4, n5, n6, n7, n8⟩ := At.l9 HAT.out
      go_upto_block 2 with (fail)
      go_cut [7, 48, 50, 67] from 29 to 87 (fun last _ _ _ wx => last = .int .i64 x ∧ Step wr wx)
      case first =>
        have hkinds := node_kinds CK.out HN.out
        rcases hkinds with h0 | h12 | ⟨h3, l, hl', hlk⟩ | ⟨h45, l, r, hl', hr', hlk, hrk⟩
        · have E := hide ((step_true h0).symm.trans HX.out)
          have e0 : (n.kind == 0) = true := by simpa using h0
          clear h0
          go_wp2_with fail
          go_meet
          case rel => exact ⟨by rw [← E.out], Step.of⟩
        · obtain ⟨j, hi, hj, hf⟩ := node_col CK.out HN.out h12
          obtain ⟨v, hvv⟩ : ∃ v, vs[j]? = some v := ⟨_, List.getElem?_eq_getElem (by have := VL.out; omega)⟩
          have E := hide ((step_leaf (acc := evalT s vs (ns.take k)) h12 hf hvv).symm.trans HX.out)
          obtain ⟨bv, ov, rfl, hbv, hcv⟩ := hv.elem (w' := wr) inferInstance (k := j) (by have := VL.out; simp; omega)
          obtain ⟨v0, v1, v2, v3⟩ := At.l4 (hcv j v.cells (by simp [hvv]))
          have hlv : bv < wr.heap.size := by omega
          have fd := fun w' [Fut w1 w'] => pfind s As cs n.col w' hs
          unfold Sch.val at fd
          rw [hi] at fd
          have FD := hide fd
          have lf := fun w' [Fut wr w'] => pleaf_any b (off + k * 9) n v w' HAT.out hlb h12
          unfold Val.val at lf
          have LF := hide lf
          have hj0 : (0 : Int) ≤ (j : Int) := by omega
          have hj1 : (j : Int) < (vs.length : Int) := by have := VL.out; omega
          obtain ⟨q0, q1, q2⟩ := At.z3 (HSW.out.fut (w' := wr)).at0
          have r0 := At.z1 (HRW.out.fut (w' := wr)).at0
          have e0 : (n.kind == 0) = false := by rcases h12 with h | h <;> simp [h]
          clear hcv hvv hi hf fd lf
          have h12' : (n.kind == 1) = true ∨ (n.kind == 1) = false ∧ (n.kind == 2) = true := by rcases h12 with h | h <;> simp [h]
          clear h12
          rcases h12' with e1 | ⟨e1, e2⟩
          all_goals
            go_upto_region 13 with (fail)
            refine wp_region_held_drew (S := (fun w' => Step wr w' ∧ (∀ b o, b < wr.heap.size → w'.cell? ⟨b, o, none⟩ = wr.cell? ⟨b, o, none⟩))) (by kernel_rfl) (by (try dsimp only); (first | exact ⟨hS1, hS2⟩ | exact ⟨Step.of, (bcell (fut _ _)).1⟩)) (fun hHeld => ?_)
            refine wT 0 53 (by assumption) ?_
            refine wT 1 54 (by assumption) ?_
            refine wT 2 55 (by assumption) ?_
            refine wT 3 56 (by assumption) ?_
            refine wT 4 57 (by assumption) ?_
            refine wT 5 58 (by assumption) ?_
            refine wT 6 59 (by assumption) ?_
            refine wT 7 60 (by assumption) ?_
            refine wT 8 61 (by assumption) ?_
            refine wT 9 62 (by assumption) ?_
            refine wpAnyH_ready (rs := [10]) (by kernel_rfl) (by simp) ?_
            refine AllReadyH.cons (o := ⟨some 63, _, _, _, _, _⟩) rfl (fun K hK => ?_) AllReadyH.nil
            obtain ⟨hS1, hS2⟩ := hHeld
            go_simp
            (go_at_call 125; (with_reducible refine (FD.out _).mono ?_); rintro e w' ⟨rfl, hq⟩)
            refine hK.out _ _ (by (try dsimp only); (first | exact ⟨hS1, hS2⟩ | exact ⟨Step.of, (bcell (fut _ _)).1⟩)) (fun hHeld => ?_)
            clear hK K
            (try simp only [Act.put, List.setIfInBounds_toArray, List.set_cons_zero, List.set_cons_succ])
            refine wT 11 64 (by assumption) ?_
            refine wT 12 65 (by assumption) ?_
            refine wpAnyH_ready (rs := [13]) (by kernel_rfl) (by simp) ?_
            refine AllReadyH.cons (o := ⟨some 66, _, _, _, _, _⟩) rfl (fun K hK => ?_) AllReadyH.nil
            obtain ⟨hS1, hS2⟩ := hHeld
            go_simp
            (go_at_call 203; (with_reducible refine (LF.out _).mono ?_); rintro e w' ⟨rfl, hq⟩)
            refine hK.out _ _ (by (try dsimp only); (first | exact ⟨hS1, hS2⟩ | exact ⟨Step.of, (bcell (fut _ _)).1⟩)) (fun hHeld => ?_)
            clear hK K
            (try simp only [Act.put, List.setIfInBounds_toArray, List.set_cons_zero, List.set_cons_succ])
            refine wT 14 7 (by assumption) ?_
            refine wpAnyH_done (by kernel_rfl) ?_ _
            obtain ⟨hS1, hS2⟩ := hHeld
            go_wp2_with fail
            go_meet
            case rel => exact ⟨by rw [← E.out], Step.of⟩
        · obtain ⟨y, hy1, hy2, hy3⟩ := evalT_get (s := s) (vs := vs) hk hlk
          have E0 := (step_not h3 hl' hy2).symm.trans HX.out
          obtain ⟨bo, oo, rfl, hbo, hco⟩ := (HO.out.sl (int_fit _).len).elem (Fut.self _) (k := l) (by rw [intCells_len, HLN.out]; exact hlk)
          have c0 := At.l1 (hco l [.int .i64 y] (by simp [intCells, hy1]))
          simp only [Nat.mul_one] at c0
          rw [hl'] at n7
          have hl0 : (0 : Int) ≤ (l : Int) := by omega
          have hl1 : (l : Int) < (k : Int) := by omega
          have PJ := hide (fun w' => pjoin_any n.kind y y w' (.inl h3) hy3 hy3)
          have E : Hid (joinT n.kind y y = x) := by show _ = _; rw [h3]; exact E0
          have e0 : (n.kind == 0) = false := by simp [h3]
          have e1 : (n.kind == 1) = false := by simp [h3]
          have e2 : (n.kind == 2) = false := by simp [h3]
          have e3 : (n.kind == 3) = true := by simp [h3]
          clear h3 hl' hlk hy1 hy2 hy3 hco E0
          go_upto_region 15 with (fail)
          go_quiet ((go_at_call 204; exact Calls.quiet_of_same ((PJ.out _).mono fun _ _ h => ⟨h.1, h.2.symm⟩)))
          go_wp2_with fail
          go_meet
          case rel => exact ⟨by rw [← E.out], Step.of⟩
        · obtain ⟨y, hy1, hy2, hy3⟩ := evalT_get (s := s) (vs := vs) hk hlk
          obtain ⟨z, hz1, hz2, hz3⟩ := evalT_get (s := s) (vs := vs) hk hrk
          have E := hide ((step_two h45 hl' hr' hy2 hz2).symm.trans HX.out)
          obtain ⟨bo, oo, rfl, hbo, hco⟩ := (HO.out.sl (int_fit _).len).elem (Fut.self _) (k := l) (by rw [intCells_len, HLN.out]; exact hlk)
          have c0 := At.l1 (hco l [.int .i64 y] (by simp [intCells, hy1]))
          have d0 := At.l1 (hco r [.int .i64 z] (by simp [intCells, hz1]))
          simp only [Nat.mul_one] at c0 d0
          rw [hl'] at n7
          rw [hr'] at n8
          have hl0 : (0 : Int) ≤ (l : Int) := by omega
          have hl1 : (l : Int) < (k : Int) := by omega
          have hr0 : (0 : Int) ≤ (r : Int) := by omega
          have hr1 : (r : Int) < (k : Int) := by omega
          have PJ := hide (fun w' => pjoin_any n.kind y z w' (.inr h45) hy3 hz3)
          have e0 : (n.kind == 0) = false := by rcases h45 with h | h <;> simp [h]
          have e1 : (n.kind == 1) = false := by rcases h45 with h | h <;> simp [h]
          have e2 : (n.kind == 2) = false := by rcases h45 with h | h <;> simp [h]
          have e3 : (n.kind == 3) = false := by rcases h45 with h | h <;> simp [h]
          clear h45 hl' hr' hlk hrk hy1 hy2 hy3 hz1 hz2 hz3 hco
          go_upto_region 8 with (fail)
          go_quiet ((go_at_call 204; exact Calls.quiet_of_same ((PJ.out _).mono fun _ _ h => ⟨h.1, h.2.symm⟩)))
          go_wp2_with fail
          go_meet
          case rel => exact ⟨by rw [← E.out], Step.of⟩
      case rest =>
        obtain ⟨rfl, hsx⟩ := hcut
        clear p0 hlb HAT n0 n1 n2 n3 n4 n5 n6 n7 n8
        have hz5 := hsx.size
        have HNew := hide (SlAt.one wc 1 [.int .i64 x] 3)
        have HOw := hide ((HO.out.fut (w' := wc)).alloc (.cells #[.int .i64 x] 3))
        go_wp2_with (at_builtin; go_loud (refine wpList_append_sl rfl (.tmp 88) (.tmp 90) 68 rfl eiInt (base := W.heap.size) (xs := intCells (evalT s vs (ns.take k))) rfl HOw.out (int_fit _) (ys := [[.int .i64 x]]) rfl (by simp) HNew.out (int_fit [x]) (by rw [intCells_len, HLN.out]; simp; omega) (by simp; omega) (N := k + 1) (by rw [intCells_len, HLN.out]; rfl) ?_; intro A5 c5 w5 hq1 hq2 hown5 hgr5 hbel5; have H5 := hide hown5; have HB5 := hide hbel5; clear hown5 hgr5 hbel5))
        go_roundw
        case rel =>
          refine ⟨k + 1, A5, c5, by omega, by go_num, by rw [HTX.out, lastT_snoc], rfl, ?_, ⟨?_⟩⟩
          · rw [HTX.out]
            have := H5.out
            simpa [intCells] using this
          · exact (fut W (wc.alloc _)).trans HB5.out
        case measure => simp [intOf]; omega
    · obtain rfl : k = ns.length := by omega
      go_wp2_with fail
      go_ret
      exact ⟨ret_int (by rw [List.take_length]), Step.of⟩

set_option maxHeartbeats 4000000 in
theorem ptruthR_any {w0 w1 w2 : World} (ns : List Nod) (A : Option Addr) (cap : Nat) (s : Sch) (As : Option Addr) (cs : Nat) (vs : List Val) (Av : Option Addr) (cv : Nat) (w : World) (hp : PrIn w0 ns A cap) (hs : SchIn w1 s As cs)
    (hv : SlAt w2 w2.heap.size 4 Av (vs.map Val.cells)) [f0 : Fut w0 w] [f1 : Fut w1 w] [f2 : Fut w2 w] (hvl : vs.length ≤ 4611686018427387904) :
    Calls Tryz.prog 181 #[.agg #[.slice A ns.length cap], s.val As cs, .agg #[.slice Av vs.length cv]] w fun e w' => e = .returned (.tuple #[.int .i64 (truthR ns s vs).1, .int .i64 (truthR ns s vs).2]) ∧ Step w w' := by
  obtain ⟨T, hT⟩ : ∃ T, truthR ns s vs = T := ⟨_, rfl⟩
  have HT := hide hT
  rw [hT]
  clear hT
  have pc := fun w' [Fut w0 w'] [Fut w1 w'] => pcheck_any ns A cap s As cs w' hp hs
  unfold Sch.val at pc ⊢
  obtain ⟨W, hW⟩ : ∃ W, W = ((w.alloc (.cells #[.slice A ns.length cap] 34)).alloc (.cells #[.int .i64 s.id, .slice As s.cols.length cs, .int .i64 s.next] 24)).alloc (.cells #[.slice Av vs.length cv] 67) := ⟨_, rfl⟩
  have SW : Step w W := by rw [hW]; exact Step.of
  have HPW : Hid (Blk W w.heap.size 34 [.slice A ns.length cap]) := by rw [hW]; exact ((Blk.new w [.slice A ns.length cap] 34).alloc _).alloc _
  have HSW : Hid (Blk W (w.heap.size + 1) 24 [.int .i64 s.id, .slice As s.cols.length cs, .int .i64 s.next]) := by rw [hW]; exact (Blk.new_at (by simp) [.int .i64 s.id, .slice As s.cols.length cs, .int .i64 s.next] 24).alloc _
  have HRW : Hid (Blk W (w.heap.size + 2) 67 [.slice Av vs.length cv]) := by rw [hW]; exact Blk.new_at (by simp) [.slice Av vs.length cv] 67
  have HW := hide hW
  clear hW
  by_cases hc : checkE ns s = 0
  · have CK := hide hc
    rw [hc] at pc
    have PC := hide pc
    clear pc hc
    cases hrb : rowB s vs with
    | true =>
      have hE : Hid (T = (lastT (evalT s vs ns), 0)) := by show _ = _; rw [← HT.out, truthR, CK.out, if_neg (by simp), if_pos hrb]
      have hvl2 : vs.length = s.cols.length := by
        by_cases h : vs.length = s.cols.length
        · exact h
        · rw [rowB_len h] at hrb; cases hrb
      have VL := hide hvl2
      have RB := hide hrb
      clear hrb hvl2
      go_enter Tryz.func181, Tryz.ntmps181
      go_wp2_with fail
      refine (PC.out _).mono ?_
      rintro e w3 ⟨rfl, hs3⟩
      rw [← HW.out] at hs3
      have r0 := At.z1 (HRW.out.fut (w' := w3)).at0
      have lr := (HRW.out.fut (w' := w3)).lt
      go_wp2_with fail
      have pr := prow_any (w0 := w3) (w.heap.size + 1) s As cs vs Av cv w3 (HSW.out.fut (w' := w3)) hs.fut hv hvl
      rw [RB.out] at pr
      refine pr.mono ?_
      clear pr
      rintro e w4 ⟨rfl, hs4⟩
      clear r0 lr
      have r0 := At.z1 (HRW.out.fut (w' := w4)).at0
      have lr := (HRW.out.fut (w' := w4)).lt
      go_wp2_with fail
      refine (pof_any (w.heap.size) (w.heap.size + 1) ns A cap s As cs vs Av cv w4 hp hs hv (HPW.out.fut (w' := w4)) (HSW.out.fut (w' := w4)) CK.out VL.out).mono ?_
      rintro e w5 ⟨rfl, hs5⟩
      clear r0 lr
      go_wp2_with fail
      go_ret2
      exact ⟨by rw [hE.out]; rfl, Step.of⟩
    | false =>
      have hE : Hid (T = (0, 1500)) := by show _ = _; rw [← HT.out, truthR, CK.out, if_neg (by simp), if_neg (by simp [hrb])]
      have RB := hide hrb
      clear hrb
      go_enter Tryz.func181, Tryz.ntmps181
      go_wp2_with fail
      refine (PC.out _).mono ?_
      rintro e w3 ⟨rfl, hs3⟩
      rw [← HW.out] at hs3
      have r0 := At.z1 (HRW.out.fut (w' := w3)).at0
      have lr := (HRW.out.fut (w' := w3)).lt
      go_wp2_with fail
      have pr := prow_any (w0 := w3) (w.heap.size + 1) s As cs vs Av cv w3 (HSW.out.fut (w' := w3)) hs.fut hv hvl
      rw [RB.out] at pr
      refine pr.mono ?_
      clear pr
      rintro e w4 ⟨rfl, hs4⟩
      clear r0 lr
      go_wp2_with fail
      go_ret2
      exact ⟨by rw [hE.out]; rfl, Step.of⟩
  · have hE : Hid (T = (0, checkE ns s)) := by show _ = _; rw [← HT.out, truthR, if_pos hc]
    have hcb : (checkE ns s != 0) = true := by simpa using hc
    have PC := hide pc
    clear pc hc
    go_enter Tryz.func181, Tryz.ntmps181
    go_wp2_with fail
    refine (PC.out _).mono ?_
    rintro e w3 ⟨rfl, hs3⟩
    rw [← HW.out] at hs3
    go_wp2_with fail
    go_ret2
    exact ⟨by rw [hE.out]; rfl, Step.of⟩
end Go.Proofs.YtnphokhehacfnaaGreatDoor

namespace Go.Proofs.YtnphokhehacfnaaGreatDoor
open Go.RowKit

/-- The places ahead of k whose truth is yes. -/
def yesTo (ns : List Nod) (s : Sch) (vss : List (List Val)) : Nat → List Int
  | 0 => []
  | k + 1 => if (truthR ns s (vss.getD k [])).1 = 1 then yesTo ns s vss k ++ [(k : Int)] else yesTo ns s vss k
def rowsOk (s : Sch) (vss : List (List Val)) (k : Nat) : Bool := (vss.take k).all (rowB s)
def selR (ns : List Nod) (s : Sch) (vss : List (List Val)) : List Int × Int :=
  if checkE ns s ≠ 0 then ([], checkE ns s) else if rowsOk s vss vss.length = true then (yesTo ns s vss vss.length, 0) else ([], 1500)
theorem yesTo_len (ns : List Nod) (s : Sch) (vss : List (List Val)) : ∀ k, (yesTo ns s vss k).length ≤ k
  | 0 => Nat.le_refl _
  | k + 1 => by
    have := yesTo_len ns s vss k
    rw [yesTo]
    split
    · simp; omega
    · omega
theorem rowsOk_succ {s : Sch} {vss : List (List Val)} {k : Nat} {vs : List Val} (h : rowsOk s vss k = true) (hk : vss[k]? = some vs) (hr : rowB s vs = true) : rowsOk s vss (k + 1) = true := by
  unfold rowsOk at h ⊢
  rw [List.take_add_one, hk, List.all_append, h]
  simpa using hr
theorem rowsOk_bad {s : Sch} {vss : List (List Val)} {k : Nat} {vs : List Val} (hk : vss[k]? = some vs) (hr : rowB s vs = false) : rowsOk s vss vss.length = false := by
  unfold rowsOk
  rw [List.take_length]
  cases h : vss.all (rowB s) with
  | false => rfl
  | true =>
    have := List.all_eq_true.1 h vs (List.mem_of_getElem? hk)
    rw [hr] at this; cases this

set_option maxRecDepth 100000 in
set_option maxHeartbeats 16000000 in
theorem pselRows_any {w0 w1 w2 : World} (ns : List Nod) (A : Option Addr) (cap : Nat) (s : Sch) (As : Option Addr) (cs : Nat) (rs : List RowA) (Ar : Option Addr) (cr : Nat) (w : World) (hp : PrIn w0 ns A cap) (hs : SchIn w1 s As cs) (hr : RowsIn w2 rs Ar cr) [f0 : Fut w0 w] [f1 : Fut w1 w] [f2 : Fut w2 w] :
    Calls Tryz.prog 159 #[.agg #[.slice A ns.length cap], s.val As cs, .slice Ar rs.length cr] w fun e w' => ∃ (A' : Option Addr) (c' : Nat), e = .returned (.tuple #[.slice A' (selR ns s (rs.map RowA.vs)).1.length c', .int .i64 (selR ns s (rs.map RowA.vs)).2]) ∧ Own w' w.heap.size 3 1 (.slice A' (selR ns s (rs.map RowA.vs)).1.length c') (intCells (selR ns s (rs.map RowA.vs)).1) ∧ Step w w' := by
  obtain ⟨T, hT⟩ : ∃ T, selR ns s (rs.map RowA.vs) = T := ⟨_, rfl⟩
  have HT := hide hT
  rw [hT]
  clear hT
  have z0 := f0.below.size; have z1 := f1.below.size; have z2 := f2.below.size
  have hrc := hr.hcap; have hrm := hr.hcapm
  have pc := fun w' [Fut w0 w'] [Fut w1 w'] => pcheck_any ns A cap s As cs w' hp hs
  unfold Sch.val at pc ⊢
  obtain ⟨W, hW⟩ : ∃ W, W = (w.alloc (.cells #[.slice A ns.length cap] 34)).alloc (.cells #[.int .i64 s.id, .slice As s.cols.length cs, .int .i64 s.next] 24) := ⟨_, rfl⟩
  have SW : Step w W := by rw [hW]; exact Step.of
  have HPW : Hid (Blk W w.heap.size 34 [.slice A ns.length cap]) := by rw [hW]; exact (Blk.new w [.slice A ns.length cap] 34).alloc _
  have HSW : Hid (Blk W (w.heap.size + 1) 24 [.int .i64 s.id, .slice As s.cols.length cs, .int .i64 s.next]) := by rw [hW]; exact Blk.new_at (by simp) [.int .i64 s.id, .slice As s.cols.length cs, .int .i64 s.next] 24
  have HW := hide hW
  have hzW := SW.size
  clear hW
  by_cases hc : checkE ns s = 0
  · have CK := hide hc
    rw [hc] at pc
    have PC := hide pc
    clear pc hc
    go_enter Tryz.func159, Tryz.ntmps159
    go_wp2_with (go_at_call 158; refine (PC.out _).mono ?_; rintro e w3 ⟨rfl, hs3⟩; rw [← HW.out] at hs3)
    have hz3 := hs3.size
    go_loopw [9, 10, 11, 12, 13, 22] (fun out _ _ _ _ i wr => ∃ (k m : Nat) (A' : Option Addr) (c' : Nat), k ≤ rs.length ∧ i = .int .i64 k ∧ Hid ((yesTo ns s (rs.map RowA.vs) k).length = m) ∧ out = .slice A' m c' ∧ Hid (rowsOk s (rs.map RowA.vs) k = true) ∧ Own wr w3.heap.size 3 1 (.slice A' m c') (intCells (yesTo ns s (rs.map RowA.vs) k)) ∧ Step w3 wr) (fun _ _ _ _ _ i _ => rs.length - (intOf i).toNat)
    case atStart => exact ⟨0, 0, none, 0, Nat.zero_le _, rfl, rfl, rfl, rfl, Own.nil_ _ _ _ _, Step.of⟩
    case round =>
      obtain ⟨k, m, A', c', hk, rfl, HM, rfl, HOK, hown, hst⟩ := hrel
      have HO := hide hown; clear hown
      obtain ⟨wo, rfl⟩ : ∃ x : World, x = wr := ⟨_, rfl⟩
      have hzo := hst.size
      by_cases hlt : k < rs.length
      · obtain ⟨b, off, rfl, hb, r, hrk, hri, hcell⟩ := hr.row (w' := wo) inferInstance hlt
        have hlb : b < wo.heap.size := by omega
        have HVK : Hid ((rs.map RowA.vs)[k]? = some r.vs) := by show _ = _; simp [hrk]
        have HY : Hid (yesTo ns s (rs.map RowA.vs) (k + 1) = if (truthR ns s r.vs).1 = 1 then yesTo ns s (rs.map RowA.vs) k ++ [(k : Int)] else yesTo ns s (rs.map RowA.vs) k) := by show _ = _; rw [yesTo, List.getD_eq_getElem?_getD, HVK.out]; rfl
        have tr := fun w' [Fut w0 w'] [Fut w1 w'] [Fut w2 w'] => ptruthR_any ns A cap s As cs r.vs r.A r.cap w' hp hs hri.at_ (by have h1 := hri.hcap; have h2 := hri.hcapm; omega)
        unfold Sch.val at tr
        have hkl : (k : Int) < (rs.length : Int) := by omega
        have hk0 : (0 : Int) ≤ (k : Int) := by omega
        have hmk : m ≤ k := by have := yesTo_len ns s (rs.map RowA.vs) k; rw [HM.out] at this; exact this
        have p0 := At.z1 (HPW.out.fut (w' := wo)).at0; have lp := (HPW.out.fut (w' := wo)).lt
        obtain ⟨q0, q1, q2⟩ := At.z3 (HSW.out.fut (w' := wo)).at0; have lq := (HSW.out.fut (w' := wo)).lt
        clear hrk
        cases hrb : rowB s r.vs with
        | false =>
          have hE : Hid (T = ([], 1500)) := by show _ = _; rw [← HT.out, selR, CK.out, if_neg (by simp), if_neg (by rw [List.length_map] at *; rw [← List.length_map (f := RowA.vs), rowsOk_bad HVK.out hrb]; decide)]
          have ht : truthR ns s r.vs = (0, 1500) := by rw [truthR, CK.out, if_neg (by simp), if_neg (by simp [hrb])]
          rw [ht] at tr
          have TR := hide tr
          clear tr ht hrb
          go_wp2_with (refine (TR.out _).mono ?_; rintro e w5 ⟨rfl, hs5⟩)
          go_ret2
          exact ⟨none, 0, by rw [hE.out]; rfl, by rw [hE.out]; exact Own.nil_ _ _ _ _, Step.of⟩
        | true =>
          have HOK2 := hide (rowsOk_succ HOK.out HVK.out hrb)
          obtain ⟨t, ht⟩ : ∃ t, truthR ns s r.vs = (t, 0) := ⟨lastT (evalT s r.vs ns), by rw [truthR, CK.out, if_neg (by simp), if_pos hrb]⟩
          rw [ht] at tr HY
          have TR := hide tr
          clear tr ht hrb
          by_cases h1 : t = 1
          · subst h1
            have HY1 : Hid (yesTo ns s (rs.map RowA.vs) (k + 1) = yesTo ns s (rs.map RowA.vs) k ++ [(k : Int)]) := by show _ = _; rw [HY.out, if_pos rfl]
            go_upto_region 12 with (refine (TR.out _).mono ?_; rintro e w5 ⟨rfl, hs5⟩)
            have hz5 := hs5.size
            clear p0 lp q0 q1 q2 lq hcell hlb
            have HNew := hide (SlAt.one w5 1 [.int .i64 (k : Int)] 3)
            have HOw := hide ((HO.out.fut (w' := w5)).alloc (.cells #[.int .i64 (k : Int)] 3))
            have hlen : (intCells (yesTo ns s (rs.map RowA.vs) k)).length = m := by rw [intCells_len]; exact HM.out
            have HLN := hide hlen
            clear hlen
            go_wp2_with (at_builtin; go_loud (refine wpList_append_sl rfl (.tmp 39) (.tmp 41) 68 rfl eiInt (base := w3.heap.size) (xs := intCells (yesTo ns s (rs.map RowA.vs) k)) rfl HOw.out (int_fit _) (ys := [[.int .i64 (k : Int)]]) rfl (by simp) HNew.out (int_fit [(k : Int)]) (by rw [HLN.out]; show (m + 1) * 8 ≤ _; omega) (fut w3 (w5.alloc (.cells #[.int .i64 (k : Int)] 3))).size (N := m + 1) (by rw [HLN.out]; rfl) ?_; intro A5 c5 w6 hq1 hq2 hown5 hgr5 hbel5; have H5 := hide hown5; have HB5 := hide hbel5; clear hown5 hgr5 hbel5))
            go_roundw
            case rel =>
              refine ⟨k + 1, m + 1, A5, c5, by omega, by go_num, by show _ = _; rw [HY1.out, List.length_append, HM.out]; rfl, rfl, HOK2, ?_, ⟨?_⟩⟩
              · rw [HY1.out]
                have := H5.out
                simpa [intCells] using this
              · exact (fut w3 (w5.alloc (.cells #[.int .i64 (k : Int)] 3))).trans HB5.out
            case measure => simp [intOf]; omega
          · have HY1 : Hid (yesTo ns s (rs.map RowA.vs) (k + 1) = yesTo ns s (rs.map RowA.vs) k) := by show _ = _; rw [HY.out, if_neg h1]
            have e1 : (t == 1) = false := by simpa using h1
            clear h1
            go_wp2_with (refine (TR.out _).mono ?_; rintro e w5 ⟨rfl, hs5⟩)
            go_roundw
            case rel => exact ⟨k + 1, m, A', c', by omega, by go_num, by show _ = _; rw [HY1.out, HM.out], rfl, HOK2, by rw [HY1.out]; exact HO.out.fut, Step.of⟩
            case measure => simp [intOf]; omega
      · obtain rfl : k = rs.length := by omega
        have hE : Hid (T = (yesTo ns s (rs.map RowA.vs) rs.length, 0)) := by show _ = _; rw [← HT.out, selR, CK.out, if_neg (by simp), List.length_map, if_pos HOK.out]
        go_wp2_with fail
        go_ret2
        exact ⟨A', c', by rw [hE.out]; show _ = Ending.returned (.tuple #[.slice A' (yesTo ns s (rs.map RowA.vs) rs.length).length c', _]); rw [HM.out]; rfl, by rw [hE.out]; show Own _ _ _ _ (.slice A' (yesTo ns s (rs.map RowA.vs) rs.length).length c') _; rw [HM.out]; exact HO.out.fut.more (base' := w.heap.size) (by omega), Step.of⟩
  · have hE : Hid (T = ([], checkE ns s)) := by show _ = _; rw [← HT.out, selR, if_pos hc]
    have hcb : (checkE ns s != 0) = true := by simpa using hc
    have PC := hide pc
    clear pc hc
    go_enter Tryz.func159, Tryz.ntmps159
    go_wp2_with (go_at_call 158; refine (PC.out _).mono ?_; rintro e w3 ⟨rfl, hs3⟩; rw [← HW.out] at hs3)
    go_ret2
    exact ⟨none, 0, by rw [hE.out]; rfl, by rw [hE.out]; exact Own.nil_ _ _ _ _, Step.of⟩
end Go.Proofs.YtnphokhehacfnaaGreatDoor

namespace Go.Proofs.YtnphokhehacfnaaGreatDoor
open Go.RowKit

/-- A spec's fields, statistics: where they lie. -/
structure FsIn (w : World) (fs : List Fld) (A : Option Addr) (cap : Nat) : Prop where
  hcap : fs.length ≤ cap
  hcapm : cap ≤ 9223372036854775807
  len : fs.length ≤ 4611686018427387904
  at_ : SlAt w w.heap.size 3 A (fs.map Fld.cells)
theorem FsIn.fut {w w' : World} {fs : List Fld} {A : Option Addr} {cap : Nat} (h : FsIn w fs A cap) [k : Fut w w'] : FsIn w' fs A cap := ⟨h.hcap, h.hcapm, h.len, h.at_.fut⟩

theorem pparam_any (t p : Int) (w : World) : Calls Tryz.prog 106 #[.int .i64 t, .int .i64 p] w fun e w' => e = .returned (.bool (paramB ⟨0, t, p⟩)) ∧ w = w' := by
  by_cases h0 : t = 0
  · subst h0
    go_enter Tryz.func106, Tryz.ntmps106
    go_wp2_with fail
    go_ret
    exact ⟨rfl, rfl⟩
  · by_cases h12 : t = 1 ∨ t = 2
    · have HP : Hid (paramB ⟨0, t, p⟩ = (decide (1 ≤ p) && decide (p ≤ 1024))) := by show _ = _; simp only [paramB]; rw [if_neg h0, if_pos h12]
      rw [HP.out]
      clear HP
      by_cases h1 : 1 ≤ p
      · rcases h12 with rfl | rfl
        all_goals
          clear h0
          go_enter Tryz.func106, Tryz.ntmps106
          go_wp2_with fail
          go_ret
          exact ⟨ret_bool (by simp [h1]), rfl⟩
      · rcases h12 with rfl | rfl
        all_goals
          clear h0
          go_enter Tryz.func106, Tryz.ntmps106
          go_wp2_with fail
          go_ret
          exact ⟨ret_bool (by simp; omega), rfl⟩
    · have HP : Hid (paramB ⟨0, t, p⟩ = false) := by show _ = _; simp only [paramB]; rw [if_neg h0, if_neg h12]
      rw [HP.out]
      clear HP
      have e0 : (t == 0) = false := by simpa using h0
      have e1 : (t == 1) = false := by simp; omega
      have e2 : (t == 2) = false := by simp; omega
      clear h0 h12
      go_enter Tryz.func106, Tryz.ntmps106
      go_wp2_with fail
      go_ret
      exact ⟨rfl, rfl⟩

theorem pfind1_any {w0 : World} (gi : Nat) (id : Int) (c : Col) (w : World) (hr : Blk w0 gi 3 [.int .i64 id]) [hf : Fut w0 w] :
    Calls Tryz.prog 151 #[c.val, .pointer (some ⟨gi, 0, none⟩)] w fun e w' => e = .returned (.bool (colId id c)) ∧ Step w w' := by
  have hR := (hr.fut (w' := w))
  have lr := hR.lt
  have r0 := At.z1 hR.at0
  clear hr hR
  unfold Col.val
  go_enter Tryz.func151, Tryz.ntmps151
  go_wp2_with fail
  go_ret
  exact ⟨rfl, Step.of⟩
set_option maxHeartbeats 4000000 in
theorem pfindId_any {w0 w1 : World} (gs : Nat) (s : Sch) (As : Option Addr) (cs : Nat) (id : Int) (w : World) (hbs : Blk w0 gs 24 [.int .i64 s.id, .slice As s.cols.length cs, .int .i64 s.next]) (hs : SchIn w1 s As cs) [f0 : Fut w0 w] [f1 : Fut w1 w] :
    Calls Tryz.prog 105 #[.pointer (some ⟨gs, 0, none⟩), .int .i64 id] w fun e w' => e = .returned (.int .i64 (idx (colId id) s.cols)) ∧ Step w w' := by
  have hl := hs.len
  have HB := hide (Blk.new w [.int .i64 id] 3)
  have lq := (hbs.fut (w' := w)).lt
  obtain ⟨q0, q1, q2⟩ := At.z3 (hbs.fut (w' := w)).at0
  have IX := hide (indexFuncCol_any 151 #[.pointer (some ⟨w.heap.size, 0, none⟩)] (colId id) As cs s.cols (w.alloc (.cells #[.int .i64 id] 3)) (by omega) hs.at_.fut (fun args w1 => by kernel_rfl)
    (fun c _ w' hb => by
      have : Fut (w.alloc (.cells #[.int .i64 id] 3)) w' := ⟨hb⟩
      exact (pfind1_any w.heap.size id c w' HB.out).mono fun e w2 h => ⟨h.1, h.2.below.mono hb.size⟩))
  clear hbs HB
  go_enter Tryz.func105, Tryz.ntmps105
  go_wp2_with (refine IX.out.mono ?_; rintro e w3 ⟨rfl, hb3⟩; have hs3 : Step (w.alloc (.cells #[.int .i64 id] 3)) w3 := ⟨hb3⟩)
  go_ret
  exact ⟨rfl, Step.of⟩
theorem pmay1_any {w0 : World} (gf : Nat) (f c : Fld) (w : World) (hr : Blk w0 gf 92 [.int .i64 f.source, .int .i64 f.trans, .int .i64 f.param]) [hf : Fut w0 w] :
    Calls Tryz.prog 108 #[.agg #[.int .i64 c.source, .int .i64 c.trans, .int .i64 c.param], .pointer (some ⟨gf, 0, none⟩)] w fun e w' => e = .returned (.bool (sameF f c)) ∧ Step w w' := by
  have hR := (hr.fut (w' := w))
  have lr := hR.lt
  obtain ⟨r0, r1, r2⟩ := At.z3 hR.at0
  clear hr hR
  have HO : Hid (sameF f c = (c.source == f.source && c.trans == f.trans)) := hide rfl
  rw [HO.out]
  clear HO
  cases e1 : (c.source == f.source)
  all_goals
    go_enter Tryz.func108, Tryz.ntmps108
    go_wp2_with fail
    go_ret
    exact ⟨ret_bool (by simp), Step.of⟩

theorem fld_none {s : Sch} {fs : List Fld} {k : Nat} {f : Fld} (h : idx (colId f.source) s.cols = -1) : fldB s fs k f = false := by rw [fldB, h]; rfl
theorem fld_param {s : Sch} {fs : List Fld} {k : Nat} {f : Fld} (h : paramB f = false) : fldB s fs k f = false := by rw [fldB, h]; simp
theorem fld_bool {s : Sch} {fs : List Fld} {k j : Nat} {f : Fld} {c : Col} (hi : idx (colId f.source) s.cols = (j : Int)) (hc : s.cols[j]? = some c) (ht : f.trans = 2) (hk : c.kind = 2) : fldB s fs k f = false := by
  obtain ⟨e, h⟩ := idx_yes (p := colId f.source) (l := s.cols) (by omega)
  have e2 : s.cols.findIdx (colId f.source) = j := by omega
  rw [fldB, e2, List.getD_eq_getElem?_getD, hc]
  simp [ht, hk]
theorem fld_else {s : Sch} {fs : List Fld} {k j : Nat} {f : Fld} {c : Col} (hi : idx (colId f.source) s.cols = (j : Int)) (hc : s.cols[j]? = some c) (hp : paramB f = true) (hn : ¬ (f.trans = 2 ∧ c.kind = 2)) : fldB s fs k f = !(fs.take k).any (sameF f) := by
  obtain ⟨e, h⟩ := idx_yes (p := colId f.source) (l := s.cols) (by omega)
  have e2 : s.cols.findIdx (colId f.source) = j := by omega
  rw [fldB, e2, List.getD_eq_getElem?_getD, hc, hp]
  have : (f.trans == 2 && (Option.getD (some c) (⟨0, .empty, 0⟩ : Col)).kind == 2) = false := by
    cases h1 : (f.trans == 2 && (Option.getD (some c) (⟨0, .empty, 0⟩ : Col)).kind == 2) with
    | false => rfl
    | true => simp at h1; exact absurd h1 hn
  rw [this]
  have : decide (0 ≤ idx (colId f.source) s.cols) = true := by simp; omega
  rw [this]
  simp
theorem specB_no {id : Int} {fs : List Fld} {s : Sch} (h : mayB s = false ∨ id < 0 ∨ 2147483647 < id ∨ 4 < fs.length) : specB id fs s = false := by
  unfold specB
  rcases h with h | h | h | h
  · simp [h]
  · have : decide (0 ≤ id) = false := by simp; omega
    simp [this]
  · have : decide (id ≤ 2147483647) = false := by simp; omega
    simp [this]
  · have : decide (fs.length ≤ 4) = false := by simp; omega
    simp [this]
theorem specB_yes {id : Int} {fs : List Fld} {s : Sch} (h : mayB s = true) (h1 : 0 ≤ id) (h2 : id ≤ 2147483647) (h3 : fs.length ≤ 4) : specB id fs s = fldsUpto s fs fs.length := by
  unfold specB
  simp [h, h1, h2, h3]

set_option maxRecDepth 100000 in
set_option maxHeartbeats 8000000 in
theorem pspec_any {w0 w1 : World} (id : Int) (fs : List Fld) (Af : Option Addr) (cf : Nat) (s : Sch) (As : Option Addr) (cs : Nat) (w : World) (hfs : FsIn w0 fs Af cf) (hs : SchIn w1 s As cs) [f0 : Fut w0 w] [f1 : Fut w1 w] :
    Calls Tryz.prog 55 #[.agg #[.int .i64 id, .slice Af fs.length cf], s.val As cs] w fun e w' => e = .returned (.bool (specB id fs s)) ∧ Step w w' := by
  have z0 := f0.below.size; have z1 := f1.below.size
  have hcap := hfs.hcap; have hcapm := hfs.hcapm; have hlf := hfs.len; have hls := hs.len
  have pm := fun w' [Fut w1 w'] => pmay s As cs w' hs
  unfold Sch.val at pm ⊢
  obtain ⟨W, hW⟩ : ∃ W, W = (w.alloc (.cells #[.int .i64 id, .slice Af fs.length cf] 27)).alloc (.cells #[.int .i64 s.id, .slice As s.cols.length cs, .int .i64 s.next] 24) := ⟨_, rfl⟩
  have SW : Step w W := by rw [hW]; exact Step.of
  have HSP : Hid (Blk W w.heap.size 27 [.int .i64 id, .slice Af fs.length cf]) := by rw [hW]; exact (Blk.new w [.int .i64 id, .slice Af fs.length cf] 27).alloc _
  have HSB : Hid (Blk W (w.heap.size + 1) 24 [.int .i64 s.id, .slice As s.cols.length cs, .int .i64 s.next]) := by rw [hW]; exact Blk.new_at (by simp) [.int .i64 s.id, .slice As s.cols.length cs, .int .i64 s.next] 24
  have HW := hide hW
  clear hW
  obtain ⟨R, hR⟩ : ∃ R, specB id fs s = R := ⟨_, rfl⟩
  have HR := hide hR
  rw [hR]
  clear hR
  cases hm : mayB s with
  | false =>
    have HE : Hid (specB id fs s = false) := by show _ = _; exact specB_no (.inl hm)
    rw [hm] at pm
    have PM := hide pm
    clear pm hm
    go_enter Tryz.func55, Tryz.ntmps55
    go_wp2_with (refine (PM.out _).mono ?_; rintro e w3 ⟨rfl, hs3⟩)
    go_ret
    exact ⟨by rw [← HR.out, HE.out]; rfl, Step.of⟩
  | true =>
    rw [hm] at pm
    have PM := hide pm
    have HM := hide hm
    clear pm hm
    by_cases h0 : id < 0
    · have HE : Hid (specB id fs s = false) := by show _ = _; exact specB_no (.inr (.inl h0))
      go_enter Tryz.func55, Tryz.ntmps55
      go_wp2_with (refine (PM.out _).mono ?_; rintro e w3 ⟨rfl, hs3⟩; rw [← HW.out] at hs3; obtain ⟨p0, p1⟩ := At.z2 (HSP.out.fut (w' := w3)).at0; have lp := (HSP.out.fut (w' := w3)).lt)
      go_ret
      exact ⟨by rw [← HR.out, HE.out]; rfl, Step.of⟩
    · by_cases h1 : 2147483647 < id
      · have HE : Hid (specB id fs s = false) := by show _ = _; exact specB_no (.inr (.inr (.inl h1)))
        go_enter Tryz.func55, Tryz.ntmps55
        go_wp2_with (refine (PM.out _).mono ?_; rintro e w3 ⟨rfl, hs3⟩; rw [← HW.out] at hs3; obtain ⟨p0, p1⟩ := At.z2 (HSP.out.fut (w' := w3)).at0; have lp := (HSP.out.fut (w' := w3)).lt)
        go_ret
        exact ⟨by rw [← HR.out, HE.out]; rfl, Step.of⟩
      · by_cases h4 : 4 < fs.length
        · have HE : Hid (specB id fs s = false) := by show _ = _; exact specB_no (.inr (.inr (.inr h4)))
          have h4' : (4 : Int) < (fs.length : Int) := by omega
          go_enter Tryz.func55, Tryz.ntmps55
          go_wp2_with (refine (PM.out _).mono ?_; rintro e w3 ⟨rfl, hs3⟩; rw [← HW.out] at hs3; obtain ⟨p0, p1⟩ := At.z2 (HSP.out.fut (w' := w3)).at0; have lp := (HSP.out.fut (w' := w3)).lt)
          go_ret
          exact ⟨by rw [← HR.out, HE.out]; rfl, Step.of⟩
        · have HE : Hid (specB id fs s = fldsUpto s fs fs.length) := by show _ = _; exact specB_yes HM.out (by omega) (by omega) (by omega)
          have h4' : ¬ (4 : Int) < (fs.length : Int) := by omega
          go_enter Tryz.func55, Tryz.ntmps55
          go_wp2_with (refine (PM.out _).mono ?_; rintro e w3 ⟨rfl, hs3⟩; rw [← HW.out] at hs3; obtain ⟨p0, p1⟩ := At.z2 (HSP.out.fut (w' := w3)).at0; have lp := (HSP.out.fut (w' := w3)).lt)
          clear p0 p1 lp h0 h1 h4'
          go_loopw [5, 6, 7, 30] (fun _ _ _ i wr => ∃ k : Nat, k ≤ fs.length ∧ i = .int .i64 k ∧ fldsUpto s fs k = true ∧ Step W wr) (fun _ _ _ i _ => fs.length - (intOf i).toNat)
          case atStart => exact ⟨0, Nat.zero_le _, rfl, rfl, Step.of⟩
          case round =>
            obtain ⟨k, hk, rfl, hok, hst⟩ := hrel
            have HO := hide hok; clear hok
            obtain ⟨wo, rfl⟩ : ∃ x : World, x = wr := ⟨_, rfl⟩
            have hzo := hst.size
            have hzW := SW.size
            by_cases hlt : k < fs.length
            · obtain ⟨b, off, rfl, hb, hc⟩ := hfs.at_.elem (w' := wo) inferInstance (k := k) (by simpa using hlt)
              obtain ⟨f, hfk⟩ : ∃ f, fs[k]? = some f := ⟨_, List.getElem?_eq_getElem hlt⟩
              obtain ⟨e0, e1, e2⟩ := At.l3 (hc k f.cells (by simp [hfk]))
              have hlb : b < wo.heap.size := by omega
              have HF := hide hfk
              clear hfk hc
              have HAF := hide (Blk.new wo [.int .i64 f.source, .int .i64 f.trans, .int .i64 f.param] 92)
              have FD := hide (pfindId_any (w0 := W) (w.heap.size + 1) s As cs f.source (wo.alloc (.cells #[.int .i64 f.source, .int .i64 f.trans, .int .i64 f.param] 92)) HSB.out hs)
              have hkl : (k : Int) < (fs.length : Int) := by omega
              go_upto_region 7 with (go_at_call 105; refine FD.out.mono ?_; rintro e w3 ⟨rfl, hs3⟩)
              clear e0 e1 e2 hlb FD
              have hz3 := hs3.size
              obtain ⟨a0, a1, a2⟩ := At.z3 (HAF.out.fut (w' := w3)).at0; have la := (HAF.out.fut (w' := w3)).lt
              obtain ⟨p0, p1⟩ := At.z2 (HSP.out.fut (w' := w3)).at0; have lp := (HSP.out.fut (w' := w3)).lt
              obtain ⟨q0, q1, q2⟩ := At.z3 (HSB.out.fut (w' := w3)).at0; have lq := (HSB.out.fut (w' := w3)).lt
              have PP := hide (fun w' => pparam_any f.trans f.param w')
              have HPP : Hid (paramB ⟨0, f.trans, f.param⟩ = paramB f) := hide rfl
              rw [HPP.out] at PP
              rcases idx_cases (colId f.source) s.cols with hi | ⟨j, hi, hj⟩
              · have HB := hide (fldsUpto_bad HF.out (fld_none (s := s) (fs := fs) (k := k) hi))
                rw [hi]
                clear hi
                go_wp2_with fail
                go_ret
                exact ⟨by rw [← HR.out, HE.out, HB.out]; rfl, Step.of⟩
              · obtain ⟨bc, oc, rfl, hbc, hcc⟩ := hs.at_.elem (w' := w3) inferInstance (k := j) (by simpa using hj)
                obtain ⟨c, hcj⟩ : ∃ c, s.cols[j]? = some c := ⟨_, List.getElem?_eq_getElem hj⟩
                obtain ⟨c0, c1, c2⟩ := At.l3 (hcc j c.cells (by simp [hcj]))
                have hlc : bc < w3.heap.size := by omega
                have HI := hide hi; have HCJ := hide hcj
                rw [hi]
                clear hi hcj hcc
                have hj0 : ¬ (j : Int) < 0 := by omega
                have hj0' : (0 : Int) ≤ (j : Int) := by omega
                have hj1 : (j : Int) < (s.cols.length : Int) := by omega
                cases hpb : paramB f with
                | false =>
                  have HB := hide (fldsUpto_bad HF.out (fld_param (s := s) (fs := fs) (k := k) hpb))
                  rw [hpb] at PP
                  clear hpb
                  go_wp2_with (go_at_call 106; refine (PP.out _).mono ?_; rintro e w' ⟨rfl, rfl⟩)
                  go_ret
                  exact ⟨by rw [← HR.out, HE.out, HB.out]; rfl, Step.of⟩
                | true =>
                  rw [hpb] at PP
                  have HPB := hide hpb
                  clear hpb
                  by_cases hbb : f.trans = 2 ∧ c.kind = 2
                  · have HB := hide (fldsUpto_bad HF.out (fld_bool (s := s) (fs := fs) (k := k) HI.out HCJ.out hbb.1 hbb.2))
                    obtain ⟨t2, k2⟩ := hbb
                    have t2' : (f.trans == 2) = true := by simpa using t2
                    have k2' : (c.kind == 2) = true := by simpa using k2
                    clear t2 k2
                    go_wp2_with (go_at_call 106; refine (PP.out _).mono ?_; rintro e w' ⟨rfl, rfl⟩)
                    go_ret
                    exact ⟨by rw [← HR.out, HE.out, HB.out]; rfl, Step.of⟩
                  · have HFB := hide (fld_else (s := s) (fs := fs) (k := k) HI.out HCJ.out HPB.out hbb)
                    have hbb' : (f.trans == 2) = false ∨ (f.trans == 2) = true ∧ (c.kind == 2) = false := by
                      by_cases h1 : f.trans = 2
                      · exact .inr ⟨by simpa using h1, by simp; exact fun h => hbb ⟨h1, h⟩⟩
                      · exact .inl (by simpa using h1)
                    clear hbb
                    have CT := containsFuncFld_any 108 #[.pointer (some ⟨wo.heap.size, 0, none⟩)] (sameF f) (some ⟨b, off, none⟩) cf (fs.take k) w3 (by simp; omega) (by have := hfs.at_.take_ k; rw [← List.map_take] at this; exact this) (fun args w1 => by kernel_rfl)
                      (fun c _ w' => by intro hF; have fA : Fut (wo.alloc (.cells #[.int .i64 f.source, .int .i64 f.trans, .int .i64 f.param] 92)) w' := Fut.tr (b := w3) inferInstance inferInstance; exact pmay1_any wo.heap.size f c w' HAF.out)
                    rw [show (fs.take k).length = k by simp; omega] at CT
                    have hkc : (k : Int) ≤ (cf : Int) := by omega
                    have hk0 : (0 : Int) ≤ (k : Int) := by omega
                    cases hq : (fs.take k).any (sameF f) with
                    | true =>
                      have HB := hide (fldsUpto_bad HF.out (HFB.out.trans (by rw [hq]; rfl)))
                      rw [hq] at CT
                      have CTH := hide CT
                      clear CT hq
                      rcases hbb' with t2 | ⟨t2, k2⟩
                      all_goals
                        go_wp2_with (first | (go_at_call 106; refine (PP.out _).mono ?_; rintro e w' ⟨rfl, rfl⟩) | (go_at_call 107; go_loud (with_reducible refine CTH.out.mono ?_); rintro e w4 ⟨rfl, hs4⟩))
                        go_ret
                        exact ⟨by rw [← HR.out, HE.out, HB.out]; rfl, Step.of⟩
                    | false =>
                      have HB := hide (fldsUpto_succ HO.out HF.out (HFB.out.trans (by rw [hq]; rfl)))
                      rw [hq] at CT
                      have CTH := hide CT
                      clear CT hq
                      rcases hbb' with t2 | ⟨t2, k2⟩
                      all_goals
                        go_wp2_with (first | (go_at_call 106; refine (PP.out _).mono ?_; rintro e w' ⟨rfl, rfl⟩) | (go_at_call 107; go_loud (with_reducible refine CTH.out.mono ?_); rintro e w4 ⟨rfl, hs4⟩))
                        go_roundw
                        case rel => exact ⟨k + 1, by omega, by go_num, HB.out, Step.of⟩
                        case measure => simp [intOf]; omega
            · obtain rfl : k = fs.length := by omega
              go_wp2_with fail
              go_ret
              exact ⟨by rw [← HR.out, HE.out, HO.out]; rfl, Step.of⟩
end Go.Proofs.YtnphokhehacfnaaGreatDoor

namespace Go.Proofs.YtnphokhehacfnaaGreatDoor
open Go.RowKit

/-- A table. -/
structure Tb where
  s : Sch
  sid : Int
  fs : List Fld
  rows : List (List Val)
/-- An operation. -/
structure Opp where
  kind : Int
  cols : List ByteArray
  rows : List (List Val)
  ns : List Nod
  col : ByteArray
  name : ByteArray
  ck : Int
  v : Val
  fs : List Fld
  agg : Int
def wholeUpto (cols : List Col) (vs : List Val) : Nat → Bool
  | 0 => true
  | k + 1 => wholeUpto cols vs k && (match cols[k]?, vs[k]? with | some c, some v => wholeB c.kind v | _, _ => true)
theorem wholeUpto_iff {cols : List Col} {vs : List Val} : ∀ {k : Nat}, wholeUpto cols vs k = true ↔ ∀ i, i < k → ∀ c v, cols[i]? = some c → vs[i]? = some v → wholeB c.kind v = true
  | 0 => by simp [wholeUpto]
  | k + 1 => by
    rw [wholeUpto, Bool.and_eq_true, wholeUpto_iff]
    constructor
    · rintro ⟨h1, h2⟩ i hi c v hc hv
      by_cases e : i = k
      · subst e; rw [hc, hv] at h2; exact h2
      · exact h1 i (by omega) c v hc hv
    · intro h
      refine ⟨fun i hi => h i (by omega), ?_⟩
      cases hc : cols[k]? with
      | none => rfl
      | some c =>
        cases hv : vs[k]? with
        | none => rfl
        | some v => exact h k (by omega) c v hc hv
def rowW (cols : List Col) (vs : List Val) : Bool := vs.length == cols.length && wholeUpto cols vs cols.length
def tabB (t : Tb) : Bool := mayB t.s && (specB t.sid t.fs t.s && (decide (t.rows.length ≤ 4096) && t.rows.all (rowW t.s.cols)))
/-- The columns' places, no one twice. -/
def placesP (cols : List Col) : List ByteArray → List Int → Option (List Int)
  | [], acc => some acc
  | n :: r, acc => if idx (named n) cols < 0 ∨ acc.contains (idx (named n) cols) = true then none else placesP cols r (acc ++ [idx (named n) cols])
def putP (n : Nat) (at_ : List Int) (vs : List Val) : List Val := (at_.zip vs).foldl (fun r p => r.set p.1.toNat p.2) (List.replicate n Val.zero)
def kindsP (cols : List Col) (at_ : List Int) (vs : List Val) : Bool := (at_.zip vs).all fun p => wholeB (cols.getD p.1.toNat ⟨0, .empty, 0⟩).kind p.2
def opRowB (n : Nat) (vs : List Val) : Bool := vs.length == n && vs.all valueB
def growP (t : Tb) (o : Opp) : Except Int Tb :=
  if 64 < o.rows.length then .error 9
  else if o.rows.all (opRowB o.cols.length) = false then .error 9
  else match placesP t.s.cols o.cols [] with
    | none => .error 5
    | some at_ =>
      if o.rows.all (kindsP t.s.cols at_) = false then .error 5
      else if 4096 < t.rows.length + o.rows.length then .error 7
      else .ok { t with rows := t.rows ++ o.rows.map (putP t.s.cols.length at_) }
def yesP (t : Tb) (ns : List Nod) : Except Int (List Int) := if checkE ns t.s ≠ 0 then .error 5 else .ok (selR ns t.s t.rows).1
def takeP (t : Tb) (o : Opp) : Except Int Tb :=
  if predB o.ns = false then .error 9
  else match yesP t o.ns with
    | .error c => .error c
    | .ok at_ => .ok { t with rows := (takeR t.rows (withoutR t.rows.length at_).1).1 }
def setRows (vss : List (List Val)) (col : Nat) (v : Val) (at_ : List Int) : List (List Val) := at_.foldl (fun l k => l.modify k.toNat fun vs => vs.set col v) vss
def updateP (t : Tb) (o : Opp) : Except Int Tb :=
  if predB o.ns = false ∨ valueB o.v = false then .error 9
  else match yesP t o.ns with
    | .error c => .error c
    | .ok at_ =>
      if idx (named o.col) t.s.cols < 0 then .error 5
      else if wholeB (t.s.cols.getD (t.s.cols.findIdx (named o.col)) ⟨0, .empty, 0⟩).kind o.v = false then .error 5
      else .ok { t with rows := setRows t.rows (t.s.cols.findIdx (named o.col)) o.v at_ }
def shapeP (t : Tb) (r : Sch × Int) : Except Int Tb := if r.2 ≠ 0 then .error 5 else .ok { t with s := r.1 }
def addcP (t : Tb) (o : Opp) : Except Int Tb :=
  match shapeP t (addR t.s o.name o.ck) with
  | .error c => .error c
  | .ok u => .ok { u with rows := t.rows.map (· ++ [Val.zero]) }
def dropP (t : Tb) (o : Opp) : Except Int Tb :=
  if idx (named o.col) t.s.cols < 0 then .error 5
  else if t.fs.any (fun f => f.source == (t.s.cols.getD (t.s.cols.findIdx (named o.col)) ⟨0, .empty, 0⟩).id) = true then .error 5
  else match shapeP t (dropR t.s o.col) with
    | .error c => .error c
    | .ok u => .ok { u with rows := t.rows.map (·.eraseIdx (t.s.cols.findIdx (named o.col))) }
def partP25 (t : Tb) (o : Opp) : Except Int Tb := if specB (wrap64 (t.sid + 1)) o.fs t.s = false then .error 5 else .ok { t with sid := t.sid + 1, fs := o.fs }
def runP (t : Tb) (o : Opp) : Except Int Tb :=
  if o.kind = 0 then growP t o
  else if o.kind = 1 ∨ o.kind = 2 then takeP t o
  else if o.kind = 3 then updateP t o
  else if o.kind = 4 then addcP t o
  else if o.kind = 5 then dropP t o
  else if o.kind = 6 then shapeP t (renameR t.s o.col o.name)
  else if o.kind = 7 then partP25 t o
  else .ok t
def applyP (t : Tb) (o : Opp) : Tb × Int :=
  if tabB t = false ∨ o.kind < 0 ∨ 8 < o.kind then (t, 9)
  else match runP t o with
    | .error c => (t, c)
    | .ok u => (u, 0)

/-- A table, with where it lies. -/
structure TbA where
  s : Sch
  As : Option Addr
  cs : Nat
  sid : Int
  fs : List Fld
  Af : Option Addr
  cf : Nat
  rs : List RowA
  Ar : Option Addr
  cr : Nat
def TbA.tb (t : TbA) : Tb := ⟨t.s, t.sid, t.fs, t.rs.map RowA.vs⟩
def TbA.cells (t : TbA) : List Value := [.int .i64 t.s.id, .slice t.As t.s.cols.length t.cs, .int .i64 t.s.next, .int .i64 t.sid, .slice t.Af t.fs.length t.cf, .slice t.Ar t.rs.length t.cr]
def TbA.val (t : TbA) : Value := .agg #[.int .i64 t.s.id, .slice t.As t.s.cols.length t.cs, .int .i64 t.s.next, .int .i64 t.sid, .slice t.Af t.fs.length t.cf, .slice t.Ar t.rs.length t.cr]
/-- A table that is read. -/
structure TbIn (w : World) (t : TbA) : Prop where
  sch : SchIn w t.s t.As t.cs
  flds : FsIn w t.fs t.Af t.cf
  fsm : t.fs.length ≤ 5864062014800
  rows : RowsIn w t.rs t.Ar t.cr
theorem SchIn.futD {w w' : World} {s : Sch} {A : Option Addr} {cap : Nat} (h : SchIn w s A cap) [k : Fut w w'] : SchIn w' s A cap := h.below k.below
theorem TbIn.fut {w w' : World} {t : TbA} (h : TbIn w t) [k : Fut w w'] : TbIn w' t := ⟨h.sch.futD, h.flds.fut, h.fsm, h.rows.fut⟩

theorem tabB_no {t : Tb} (h : mayB t.s = false ∨ specB t.sid t.fs t.s = false ∨ 4096 < t.rows.length ∨ t.rows.all (rowW t.s.cols) = false) : tabB t = false := by
  unfold tabB
  rcases h with h | h | h | h
  · rw [h]; rfl
  · rw [h]; simp
  · have : decide (t.rows.length ≤ 4096) = false := by simp; omega
    rw [this]; simp
  · rw [h]; simp
theorem tabB_iff {t : Tb} : tabB t = true ↔ mayB t.s = true ∧ specB t.sid t.fs t.s = true ∧ t.rows.length ≤ 4096 ∧ t.rows.all (rowW t.s.cols) = true := by
  unfold tabB
  rw [Bool.and_eq_true, Bool.and_eq_true, Bool.and_eq_true, decide_eq_true_iff]

/-- An operation, with where it lies. -/
structure OpA where
  kind : Int
  txn : ByteArray
  cols : List ByteArray
  Ac : Option Addr
  cc : Nat
  rows : List RowA
  Ar : Option Addr
  cr : Nat
  ns : List Nod
  An : Option Addr
  cn : Nat
  col : ByteArray
  name : ByteArray
  ck : Int
  v : Val
  fs : List Fld
  Af : Option Addr
  cf : Nat
  ver : Int
  time : Int
  agg : Int
def OpA.op (o : OpA) : Opp := ⟨o.kind, o.cols, o.rows.map RowA.vs, o.ns, o.col, o.name, o.ck, o.v, o.fs, o.agg⟩
def OpA.cells (o : OpA) : List Value := [.int .i64 o.kind, .string o.txn, .slice o.Ac o.cols.length o.cc, .slice o.Ar o.rows.length o.cr, .slice o.An o.ns.length o.cn, .string o.col, .string o.name, .int .i64 o.ck, .int .i64 o.v.kind, .int .i64 o.v.i, .bool o.v.b, .string o.v.s, .slice o.Af o.fs.length o.cf, .int .i64 o.ver, .int .i64 o.time, .int .i64 o.agg]
def FineD (v : Val) : Prop := v.s.size ≤ 9223372036854775000 ∧ -9223372036854775808 ≤ v.i ∧ v.i ≤ 9223372036854775807
structure OpIn (w : World) (o : OpA) : Prop where
  cols : SlAt w w.heap.size 1 o.Ac (strCells o.cols)
  clen : o.cols.length ≤ 8796093022207
  ccap : o.cols.length ≤ o.cc
  rows : RowsIn w o.rows o.Ar o.cr
  fine : ∀ r ∈ o.rows, ∀ v ∈ r.vs, FineD v
  prd : PrIn w o.ns o.An o.cn
  flds : FsIn w o.fs o.Af o.cf
  fsm : o.fs.length ≤ 5864062014800
  val : FineD o.v
  name : o.name.size ≤ 9223372036854775807
theorem OpIn.fut {w w' : World} {o : OpA} (h : OpIn w o) [k : Fut w w'] : OpIn w' o := ⟨h.cols.fut, h.clen, h.ccap, h.rows.fut, h.fine, h.prd.fut, h.flds.fut, h.fsm, h.val, h.name⟩
theorem At.zOp {w : World} {b : Nat} {x0 x1 x2 x3 x4 x5 x6 x7 x8 x9 x10 x11 x12 x13 x14 x15 : Value} (h : At w b 0 [x0, x1, x2, x3, x4, x5, x6, x7, x8, x9, x10, x11, x12, x13, x14, x15]) :
    w.cell? ⟨b, 0, none⟩ = some x0 ∧ w.cell? ⟨b, 1, none⟩ = some x1 ∧ w.cell? ⟨b, 2, none⟩ = some x2 ∧ w.cell? ⟨b, 3, none⟩ = some x3 ∧ w.cell? ⟨b, 4, none⟩ = some x4 ∧ w.cell? ⟨b, 5, none⟩ = some x5 ∧ w.cell? ⟨b, 6, none⟩ = some x6 ∧ w.cell? ⟨b, 7, none⟩ = some x7 ∧ w.cell? ⟨b, 8, none⟩ = some x8 ∧ w.cell? ⟨b, 9, none⟩ = some x9 ∧ w.cell? ⟨b, 10, none⟩ = some x10 ∧ w.cell? ⟨b, 11, none⟩ = some x11 ∧ w.cell? ⟨b, 12, none⟩ = some x12 ∧ w.cell? ⟨b, 13, none⟩ = some x13 ∧ w.cell? ⟨b, 14, none⟩ = some x14 ∧ w.cell? ⟨b, 15, none⟩ = some x15 := by
  refine ⟨?_, ?_, ?_, ?_, ?_, ?_, ?_, ?_, ?_, ?_, ?_, ?_, ?_, ?_, ?_, ?_⟩ <;> first | simpa using h 0 x0 rfl | simpa using h 1 x1 rfl | simpa using h 2 x2 rfl | simpa using h 3 x3 rfl | simpa using h 4 x4 rfl | simpa using h 5 x5 rfl | simpa using h 6 x6 rfl | simpa using h 7 x7 rfl | simpa using h 8 x8 rfl | simpa using h 9 x9 rfl | simpa using h 10 x10 rfl | simpa using h 11 x11 rfl | simpa using h 12 x12 rfl | simpa using h 13 x13 rfl | simpa using h 14 x14 rfl | simpa using h 15 x15 rfl
end Go.Proofs.YtnphokhehacfnaaGreatDoor

namespace Go.Proofs.YtnphokhehacfnaaGreatDoor
open Go.RowKit

theorem fld_fit (f : Fld) : f.cells.length = 3 ∧ ∀ u ∈ f.cells, u.oneCell' = true := by
  refine ⟨rfl, fun u hu => ?_⟩
  simp [Fld.cells] at hu
  rcases hu with rfl | rfl | rfl <;> rfl
theorem flds_fit (l : List Fld) : Fit 3 (l.map Fld.cells) := Fit.map fld_fit l
theorem eiFld : EI Tryz.prog 25 92 3 24 :=
  ⟨Tryz.underlying25, info_parts (show (Tryz.prog.info? 92).map (fun i => (i.zero, i.size, i.bytes)) = some (some (.agg #[.int .i64 0, .int .i64 0, .int .i64 0]), 3, 24) by kernel_rfl) |>.elim fun i h => ⟨i, _, h.1, h.2.1, h.2.2.1, h.2.2.2, rfl⟩, by decide, by decide⟩

/-- What marks the room behind a slice that is lent. -/
def Fld.mark : Fld := ⟨77777, 0, 0⟩

end Go.Proofs.YtnphokhehacfnaaGreatDoor

