/-
  Texts put together: Rw, Pt, Ga, Te.
-/
import Derived.Deep.RegionHeld3
import Derived.Deep.RegionLaw
import Derived.Deep.Cut
import Derived.Deep.CutBlock
import Derived.Test.YtnphokhehacfnaaGreatDoorQz01
import Derived.Test.YtnphokhehacfnaaGreatDoorQz02
import Derived.Test.YtnphokhehacfnaaGreatDoorQz03
import Derived.Test.YtnphokhehacfnaaGreatDoorQz04
import Derived.Test.YtnphokhehacfnaaGreatDoorQz05
namespace Go.Proofs.YtnphokhehacfnaaGreatDoor
open Go.RowKit

theorem rowB_len {s : Sch} {vs : List Val} (h : vs.length ≠ s.cols.length) : rowB s vs = false := by simp [rowB, h]
theorem rowB_of {s : Sch} {vs : List Val} (h : vs.length = s.cols.length) : rowB s vs = rowUpto s.cols vs s.cols.length := by simp [rowB, h]
theorem rowUpto_succ {cs : List Col} {vs : List Val} {k : Nat} {c : Col} {v : Val} (h : rowUpto cs vs k = true) (hc : cs[k]? = some c) (hv : vs[k]? = some v) (ho : cellOk c v = true) : rowUpto cs vs (k + 1) = true := by
  simp only [rowUpto, h, hc, hv, ho, Bool.and_self]

set_option maxHeartbeats 2000000 in
theorem prow_any {w0 w1 : World} (g : Nat) (s : Sch) (A : Option Addr) (cap : Nat) (vs : List Val) (Av : Option Addr) (cv : Nat) (w : World) (hb : Blk w0 g 24 [.int .i64 s.id, .slice A s.cols.length cap, .int .i64 s.next]) (h : SchIn w0 s A cap)
    (hv : SlAt w1 w1.heap.size 4 Av (vs.map Val.cells)) [f0 : Fut w0 w] [f1 : Fut w1 w] (hl : vs.length ≤ 4611686018427387904) :
    Calls Tryz.prog 196 #[.pointer (some ⟨g, 0, none⟩), .agg #[.slice Av vs.length cv]] w fun e w' => e = .returned (.bool (rowB s vs)) ∧ Step w w' := by
  have hat := h.at_
  have hn := h.len
  obtain ⟨id, cols, next⟩ := s
  simp only at hat hn hb
  have z0 := f0.below.size
  have z1 := f1.below.size
  have Hb := hide hb
  have lg := hb.lt
  obtain ⟨q0, q1, q2⟩ := At.z3 (hb.fut (w' := w)).at0
  have lg' : g < w.heap.size := by omega
  clear hb
  by_cases hlen : vs.length = cols.length
  · have hq : ((vs.length : Int) != (cols.length : Int)) = false := by simp; omega
    rw [rowB_of hlen]
    have HL := hide hlen; clear hlen
    simp only
    go_enter Tryz.func196, Tryz.ntmps196
    go_wp2
    go_quiet (fail)
    go_wp2
    clear q0 q1 q2
    go_loopw [5, 6, 7, 22] (fun _ _ _ i wr => ∃ k : Nat, k ≤ cols.length ∧ i = .int .i64 k ∧ rowUpto cols vs k = true ∧ Step (w.alloc (.cells #[.slice Av vs.length cv] 67)) wr) (fun _ _ _ i _ => cols.length - (intOf i).toNat)
    case atStart => exact ⟨0, Nat.zero_le _, rfl, rfl, Step.of⟩
    case round =>
      obtain ⟨k, hk, rfl, hok, hst⟩ := hrel
      have HO := hide hok; clear hok
      have hs1 := hst.size
      simp only [hsz] at hs1
      have hs2 : w.heap.size < wr.heap.size := by omega
      have HRB := hide ((Blk.new w [.slice Av vs.length cv] 67).fut (w' := wr))
      have r0 := At.z1 HRB.out.at0
      by_cases hlt : k < cols.length
      · obtain ⟨b, off, rfl, hb, hc⟩ := hat.elem (w' := wr) inferInstance (k := k) (by simpa using hlt)
        obtain ⟨c, hcc⟩ : ∃ c, cols[k]? = some c := ⟨_, List.getElem?_eq_getElem hlt⟩
        obtain ⟨h1, h2, h3⟩ := At.l3 (hc k c.cells (by simp [hcc]))
        obtain ⟨bv, ov, rfl, hbv, hcv⟩ := hv.elem (w' := wr) inferInstance (k := k) (by have := HL.out; simp; omega)
        obtain ⟨v, hvv⟩ : ∃ v, vs[k]? = some v := ⟨_, List.getElem?_eq_getElem (by have := HL.out; omega)⟩
        obtain ⟨v1, v2, v3, v4⟩ := At.l4 (hcv k v.cells (by simp [hvv]))
        have hs3 : b < wr.heap.size := by omega
        have hs4 : bv < wr.heap.size := by omega
        have HC := hide hcc; have HV := hide hvv
        have hkv : k < vs.length := by have := HL.out; omega
        clear hcc hvv hc hcv
        have HA := hide (Blk.new wr [.int .i64 c.id, .string c.name, .int .i64 c.kind] 90)
        go_wp2_with fail
        refine (plain_ag v _).mono ?_
        rintro e w2 ⟨rfl, hs⟩
        clear v1 v2 v3 v4 h1 h2 h3 r0
        have HA2 := hide (HA.out.fut (w' := w2))
        obtain ⟨a0, a1, a2⟩ := At.z3 HA2.out.at0
        have la := HA2.out.lt
        by_cases e1 : kindV v = 0
        · have hco : cellOk c v = true := by simp [cellOk, e1]
          have e1' : (kindV v != 0) = false := by simpa using e1
          have HCO := hide hco
          clear e1 hco
          go_wp2_with fail
          go_roundw
          case rel => exact ⟨k + 1, by omega, by go_num, rowUpto_succ HO.out HC.out HV.out HCO.out, Step.of⟩
          case measure => simp [intOf]; omega
        · have e1' : (kindV v != 0) = true := by simpa using e1
          by_cases e2 : kindV v = c.kind
          · have hco : cellOk c v = true := by simp [cellOk, e2]
            have e2' : (kindV v != c.kind) = false := by simpa using e2
            have HCO := hide hco
            clear e1 e2 hco
            go_wp2_with fail
            go_roundw
            case rel => exact ⟨k + 1, by omega, by go_num, rowUpto_succ HO.out HC.out HV.out HCO.out, Step.of⟩
            case measure => simp [intOf]; omega
          · have hco : cellOk c v = false := by simp [cellOk, e1, e2]
            have e2' : (kindV v != c.kind) = true := by simpa using e2
            have HCO := hide hco
            clear e1 e2 hco
            go_wp2_with fail
            go_ret
            exact ⟨ret_bool (rowUpto_bad HC.out HV.out HCO.out).symm, Step.of⟩
      · obtain rfl : k = cols.length := by omega
        go_wp2_with fail
        go_ret
        exact ⟨ret_bool HO.out.symm, Step.of⟩
  · have hq : ((vs.length : Int) != (cols.length : Int)) = true := by simp; omega
    rw [rowB_len hlen]
    clear hlen
    go_enter Tryz.func196, Tryz.ntmps196
    go_wp2
    go_quiet (fail)
    go_wp2
    go_ret
    exact ⟨rfl, Step.of⟩

end Go.Proofs.YtnphokhehacfnaaGreatDoor

namespace Go.Proofs.YtnphokhehacfnaaGreatDoor
open Go.RowKit

set_option maxRecDepth 100000 in
set_option maxHeartbeats 16000000 in
theorem pof_any {w0 w1 w2 : World} (gp gs : Nat) (ns : List Nod) (A : Option Addr) (cap : Nat) (s : Sch) (As : Option Addr) (cs : Nat) (vs : List Val) (Av : Option Addr) (cv : Nat) (w : World) (hp : PrIn w0 ns A cap) (hs : SchIn w1 s As cs)
    (hv : SlAt w2 w2.heap.size 4 Av (vs.map Val.cells)) [f0 : Fut w0 w] [f1 : Fut w1 w] [f2 : Fut w2 w] (hbp : Blk w gp 34 [.slice A ns.length cap]) (hbs : Blk w gs 24 [.int .i64 s.id, .slice As s.cols.length cs, .int .i64 s.next])
    (hck : checkE ns s = 0) (hvl : vs.length = s.cols.length) :
    Calls Tryz.prog 197 #[.pointer (some ⟨gp, 0, none⟩), .pointer (some ⟨gs, 0, none⟩), .agg #[.slice Av vs.length cv]] w fun e w' => e = .returned (.int .i64 (lastT (evalT s vs ns))) ∧ Step w w' := by
  have hl := hp.len
  have hls := hs.len
  have z0 := f0.below.size; have z1 := f1.below.size; have z2 := f2.below.size
  have CK := hide hck; have VL := hide hvl
  clear hck hvl
  have lgp := hbp.lt; have lgs := hbs.lt
  have HP := hide hbp; have HS := hide hbs
  have p0 := At.z1 (hbp.alloc (.cells #[.slice Av vs.length cv] 67)).at0
  clear hbp hbs
  have h24 : ns.length ≤ 24 := (predB_iff.1 (checkE_inv CK.out).1).1
  have HRB := hide (Blk.new w [.slice Av vs.length cv] 67)
  obtain ⟨W, hW⟩ : ∃ W, W = w.alloc (.cells #[.slice Av vs.length cv] 67) := ⟨_, rfl⟩
  have SW : Step w W := by rw [hW]; exact Step.of
  have HPW : Hid (Blk W gp 34 [.slice A ns.length cap]) := by rw [hW]; exact HP.out.alloc _
  have HSW : Hid (Blk W gs 24 [.int .i64 s.id, .slice As s.cols.length cs, .int .i64 s.next]) := by rw [hW]; exact HS.out.alloc _
  have HRW : Hid (Blk W w.heap.size 67 [.slice Av vs.length cv]) := by rw [hW]; exact HRB.out
  have hzW : W.heap.size = w.heap.size + 1 := by rw [hW]; simp
  have HZ := hide hzW
  have HW := hide hW
  clear hW hzW HP HS HRB
  go_enter Tryz.func197, Tryz.ntmps197
  go_wp2
  rw [← HW.out]
  clear p0
  go_loopw [7, 8, 9, 10, 16] (fun last all _ _ i wr => ∃ (k : Nat) (A' : Option Addr) (c' : Nat), k ≤ ns.length ∧ i = .int .i64 k ∧ last = .int .i64 (lastT (evalT s vs (ns.take k))) ∧ all = .slice A' k c' ∧ Own wr W.heap.size 3 1 (.slice A' k c') (intCells (evalT s vs (ns.take k))) ∧ Step W wr) (fun _ _ _ _ i _ => ns.length - (intOf i).toNat)
  case atStart => exact ⟨0, none, 0, Nat.zero_le _, rfl, rfl, rfl, Own.nil_ _ _ _ _, Step.of⟩
  case round =>
    obtain ⟨k, A', c', hk, rfl, rfl, rfl, hown, hst⟩ := hrel
    have HO := hide hown; clear hown
    have hs1 := hst.size
    have hsz := HZ.out
    have lg0 : gp < wr.heap.size := by omega
    have lg1 : gs < wr.heap.size := by omega
    have lg2 : w.heap.size < wr.heap.size := by omega
    clear hsz
    have p0 := At.z1 (HPW.out.fut (w' := wr)).at0
    by_cases hlt : k < ns.length
    · obtain ⟨b, off, rfl, hb, n, hn, hat⟩ := hp.node (w' := wr) inferInstance hlt
      have hlb : b < wr.heap.size := by omega
      have HN := hide hn; clear hn
      have HAT := hide hat; clear hat
      have hkl : (k : Int) < (ns.length : Int) := by omega
      obtain ⟨x, HX, HTX⟩ : ∃ x, Hid (stepT s vs (evalT s vs (ns.take k)) n = x) ∧ Hid (evalT s vs (ns.take (k + 1)) = evalT s vs (ns.take k) ++ [x]) := ⟨_, rfl, evalT_take s vs ns k n HN.out⟩
      have HLN : Hid ((evalT s vs (ns.take k)).length = k) := by show _ = _; rw [evalT_len]; simp; omega
      obtain ⟨n0, n1, n2, n3, n4, n5, n6, n7, n8⟩ := At.l9 HAT.out
      go_upto_block 2 with (fail)
      go_cut [7, 48, 50, 67] from 29 to 87 (fun last _ _ _ wx => last = .int .i64 x ∧ Step wr wx)
      case first =>
        have hkinds := node_kinds CK.out HN.out
        rcases hkinds with h0 | h12 | ⟨h3, l, hl', hlk⟩ | ⟨h45, l, r, hl', hr', hlk, hrk⟩
        · have E := hide ((step_true h0).symm.trans HX.out)
          have e0 : (n.kind == 0) = true := by simpa using h0
          clear h0
          go_wp2_with fail
          go_meet
          case rel => exact ⟨by rw [← E.out], Step.of⟩
        · obtain ⟨j, hi, hj, hf⟩ := node_col CK.out HN.out h12
          obtain ⟨v, hvv⟩ : ∃ v, vs[j]? = some v := ⟨_, List.getElem?_eq_getElem (by have := VL.out; omega)⟩
          have E := hide ((step_leaf (acc := evalT s vs (ns.take k)) h12 hf hvv).symm.trans HX.out)
          obtain ⟨bv, ov, rfl, hbv, hcv⟩ := hv.elem (w' := wr) inferInstance (k := j) (by have := VL.out; simp; omega)
          obtain ⟨v0, v1, v2, v3⟩ := At.l4 (hcv j v.cells (by simp [hvv]))
          have hlv : bv < wr.heap.size := by omega
          have fd := fun w' [Fut w1 w'] => pfind s As cs n.col w' hs
          unfold Sch.val at fd
          rw [hi] at fd
          have FD := hide fd
          have lf := fun w' [Fut wr w'] => pleaf_any b (off + k * 9) n v w' HAT.out hlb h12
          unfold Val.val at lf
          have LF := hide lf
          have hj0 : (0 : Int) ≤ (j : Int) := by omega
          have hj1 : (j : Int) < (vs.length : Int) := by have := VL.out; omega
          obtain ⟨q0, q1, q2⟩ := At.z3 (HSW.out.fut (w' := wr)).at0
          have r0 := At.z1 (HRW.out.fut (w' := wr)).at0
          have e0 : (n.kind == 0) = false := by rcases h12 with h | h <;> simp [h]
          clear hcv hvv hi hf fd lf
          have h12' : (n.kind == 1) = true ∨ (n.kind == 1) = false ∧ (n.kind == 2) = true := by rcases h12 with h | h <;> simp [h]
          clear h12
          rcases h12' with e1 | ⟨e1, e2⟩
          all_goals
            go_upto_region 13 with (fail)
            refine wp_region_held_drew (S := (fun w' => Step wr w' ∧ (∀ b o, b < wr.heap.size → w'.cell? ⟨b, o, none⟩ = wr.cell? ⟨b, o, none⟩))) (by kernel_rfl) (by (try dsimp only); (first | exact ⟨hS1, hS2⟩ | exact ⟨Step.of, (bcell (fut _ _)).1⟩)) (fun hHeld => ?_)
            refine wpAnyH_take (i := 0) (oi := ⟨some 53, _, _, _, _, _⟩) (v := ?_) rfl (by kernel_rfl) (by kernel_rfl) (by kernel_rfl) (fun _ _ _ h => h) (Or.inl ⟨by rfl, ?_⟩) (by assumption) ?_
            rotate_left
            · ((intro w hSw); (try dsimp only at hSw); go_simp; (try with_reducible rfl))
            (try simp only [Act.put, List.setIfInBounds_toArray, List.set_cons_zero, List.set_cons_succ])
            refine wpAnyH_take (i := 1) (oi := ⟨some 54, _, _, _, _, _⟩) (v := ?_) rfl (by kernel_rfl) (by kernel_rfl) (by kernel_rfl) (fun _ _ _ h => h) (Or.inl ⟨by rfl, ?_⟩) (by assumption) ?_
            rotate_left
            · ((intro w hSw); (try dsimp only at hSw); go_simp; (try with_reducible rfl))
            (try simp only [Act.put, List.setIfInBounds_toArray, List.set_cons_zero, List.set_cons_succ])
            refine wpAnyH_take (i := 2) (oi := ⟨some 55, _, _, _, _, _⟩) (v := ?_) rfl (by kernel_rfl) (by kernel_rfl) (by kernel_rfl) (fun _ _ _ h => h) (Or.inl ⟨by rfl, ?_⟩) (by assumption) ?_
            rotate_left
            · ((intro w hSw); (try dsimp only at hSw); go_simp; (try with_reducible rfl))
            (try simp only [Act.put, List.setIfInBounds_toArray, List.set_cons_zero, List.set_cons_succ])
            refine wpAnyH_take (i := 3) (oi := ⟨some 56, _, _, _, _, _⟩) (v := ?_) rfl (by kernel_rfl) (by kernel_rfl) (by kernel_rfl) (fun _ _ _ h => h) (Or.inl ⟨by rfl, ?_⟩) (by assumption) ?_
            rotate_left
            · ((intro w hSw); (try dsimp only at hSw); go_simp; (try with_reducible rfl))
            (try simp only [Act.put, List.setIfInBounds_toArray, List.set_cons_zero, List.set_cons_succ])
            refine wpAnyH_take (i := 4) (oi := ⟨some 57, _, _, _, _, _⟩) (v := ?_) rfl (by kernel_rfl) (by kernel_rfl) (by kernel_rfl) (fun _ _ _ h => h) (Or.inl ⟨by rfl, ?_⟩) (by assumption) ?_
            rotate_left
            · ((intro w hSw); (try dsimp only at hSw); go_simp; (try with_reducible rfl))
            (try simp only [Act.put, List.setIfInBounds_toArray, List.set_cons_zero, List.set_cons_succ])
            refine wpAnyH_take (i := 5) (oi := ⟨some 58, _, _, _, _, _⟩) (v := ?_) rfl (by kernel_rfl) (by kernel_rfl) (by kernel_rfl) (fun _ _ _ h => h) (Or.inl ⟨by rfl, ?_⟩) (by assumption) ?_
            rotate_left
            · ((intro w hSw); (try dsimp only at hSw); go_simp; (try with_reducible rfl))
            (try simp only [Act.put, List.setIfInBounds_toArray, List.set_cons_zero, List.set_cons_succ])
            refine wpAnyH_take (i := 6) (oi := ⟨some 59, _, _, _, _, _⟩) (v := ?_) rfl (by kernel_rfl) (by kernel_rfl) (by kernel_rfl) (fun _ _ _ h => h) (Or.inl ⟨by rfl, ?_⟩) (by assumption) ?_
            rotate_left
            · ((intro w hSw); (try dsimp only at hSw); go_simp; (try with_reducible rfl))
            (try simp only [Act.put, List.setIfInBounds_toArray, List.set_cons_zero, List.set_cons_succ])
            refine wpAnyH_take (i := 7) (oi := ⟨some 60, _, _, _, _, _⟩) (v := ?_) rfl (by kernel_rfl) (by kernel_rfl) (by kernel_rfl) (fun _ _ _ h => h) (Or.inl ⟨by rfl, ?_⟩) (by assumption) ?_
            rotate_left
            · ((intro w hSw); (try dsimp only at hSw); go_simp; (try with_reducible rfl))
            (try simp only [Act.put, List.setIfInBounds_toArray, List.set_cons_zero, List.set_cons_succ])
            refine wpAnyH_take (i := 8) (oi := ⟨some 61, _, _, _, _, _⟩) (v := ?_) rfl (by kernel_rfl) (by kernel_rfl) (by kernel_rfl) (fun _ _ _ h => h) (Or.inl ⟨by rfl, ?_⟩) (by assumption) ?_
            rotate_left
            · ((intro w hSw); (try dsimp only at hSw); go_simp; (try with_reducible rfl))
            (try simp only [Act.put, List.setIfInBounds_toArray, List.set_cons_zero, List.set_cons_succ])
            refine wpAnyH_take (i := 9) (oi := ⟨some 62, _, _, _, _, _⟩) (v := ?_) rfl (by kernel_rfl) (by kernel_rfl) (by kernel_rfl) (fun _ _ _ h => h) (Or.inl ⟨by rfl, ?_⟩) (by assumption) ?_
            rotate_left
            · ((intro w hSw); (try dsimp only at hSw); go_simp; (try with_reducible rfl))
            (try simp only [Act.put, List.setIfInBounds_toArray, List.set_cons_zero, List.set_cons_succ])
            refine wpAnyH_ready (rs := [10]) (by kernel_rfl) (by simp) ?_
            refine AllReadyH.cons (o := ⟨some 63, _, _, _, _, _⟩) rfl (fun K hK => ?_) AllReadyH.nil
            obtain ⟨hS1, hS2⟩ := hHeld
            go_simp
            (go_at_call 125; (with_reducible refine (FD.out _).mono ?_); rintro e w' ⟨rfl, hq⟩)
            refine hK.out _ _ (by (try dsimp only); (first | exact ⟨hS1, hS2⟩ | exact ⟨Step.of, (bcell (fut _ _)).1⟩)) (fun hHeld => ?_)
            clear hK K
            (try simp only [Act.put, List.setIfInBounds_toArray, List.set_cons_zero, List.set_cons_succ])
            refine wpAnyH_take (i := 11) (oi := ⟨some 64, _, _, _, _, _⟩) (v := ?_) rfl (by kernel_rfl) (by kernel_rfl) (by kernel_rfl) (fun _ _ _ h => h) (Or.inl ⟨by rfl, ?_⟩) (by assumption) ?_
            rotate_left
            · ((intro w hSw); (try dsimp only at hSw); go_simp; (try with_reducible rfl))
            (try simp only [Act.put, List.setIfInBounds_toArray, List.set_cons_zero, List.set_cons_succ])
            refine wpAnyH_take (i := 12) (oi := ⟨some 65, _, _, _, _, _⟩) (v := ?_) rfl (by kernel_rfl) (by kernel_rfl) (by kernel_rfl) (fun _ _ _ h => h) (Or.inl ⟨by rfl, ?_⟩) (by assumption) ?_
            rotate_left
            · ((intro w hSw); (try dsimp only at hSw); go_simp; (try with_reducible rfl))
            (try simp only [Act.put, List.setIfInBounds_toArray, List.set_cons_zero, List.set_cons_succ])
            refine wpAnyH_ready (rs := [13]) (by kernel_rfl) (by simp) ?_
            refine AllReadyH.cons (o := ⟨some 66, _, _, _, _, _⟩) rfl (fun K hK => ?_) AllReadyH.nil
            obtain ⟨hS1, hS2⟩ := hHeld
            go_simp
            (go_at_call 203; (with_reducible refine (LF.out _).mono ?_); rintro e w' ⟨rfl, hq⟩)
            refine hK.out _ _ (by (try dsimp only); (first | exact ⟨hS1, hS2⟩ | exact ⟨Step.of, (bcell (fut _ _)).1⟩)) (fun hHeld => ?_)
            clear hK K
            (try simp only [Act.put, List.setIfInBounds_toArray, List.set_cons_zero, List.set_cons_succ])
            refine wpAnyH_take (i := 14) (oi := ⟨some 7, _, _, _, _, _⟩) (v := ?_) rfl (by kernel_rfl) (by kernel_rfl) (by kernel_rfl) (fun _ _ _ h => h) (Or.inl ⟨by rfl, ?_⟩) (by assumption) ?_
            rotate_left
            · ((intro w hSw); (try dsimp only at hSw); go_simp; (try with_reducible rfl))
            (try simp only [Act.put, List.setIfInBounds_toArray, List.set_cons_zero, List.set_cons_succ])
            refine wpAnyH_done (by kernel_rfl) ?_ _
            obtain ⟨hS1, hS2⟩ := hHeld
            go_wp2_with fail
            go_meet
            case rel => exact ⟨by rw [← E.out], Step.of⟩
        · obtain ⟨y, hy1, hy2, hy3⟩ := evalT_get (s := s) (vs := vs) hk hlk
          have E0 := (step_not h3 hl' hy2).symm.trans HX.out
          obtain ⟨bo, oo, rfl, hbo, hco⟩ := (HO.out.sl (int_fit _).len).elem (Fut.self _) (k := l) (by rw [intCells_len, HLN.out]; exact hlk)
          have c0 := At.l1 (hco l [.int .i64 y] (by simp [intCells, hy1]))
          simp only [Nat.mul_one] at c0
          rw [hl'] at n7
          have hl0 : (0 : Int) ≤ (l : Int) := by omega
          have hl1 : (l : Int) < (k : Int) := by omega
          have PJ := hide (fun w' => pjoin_any n.kind y y w' (.inl h3) hy3 hy3)
          have E : Hid (joinT n.kind y y = x) := by show _ = _; rw [h3]; exact E0
          have e0 : (n.kind == 0) = false := by simp [h3]
          have e1 : (n.kind == 1) = false := by simp [h3]
          have e2 : (n.kind == 2) = false := by simp [h3]
          have e3 : (n.kind == 3) = true := by simp [h3]
          clear h3 hl' hlk hy1 hy2 hy3 hco E0
          go_upto_region 15 with (fail)
          go_quiet ((go_at_call 204; exact Calls.quiet_of_same ((PJ.out _).mono fun _ _ h => ⟨h.1, h.2.symm⟩)))
          go_wp2_with fail
          go_meet
          case rel => exact ⟨by rw [← E.out], Step.of⟩
        · obtain ⟨y, hy1, hy2, hy3⟩ := evalT_get (s := s) (vs := vs) hk hlk
          obtain ⟨z, hz1, hz2, hz3⟩ := evalT_get (s := s) (vs := vs) hk hrk
          have E := hide ((step_two h45 hl' hr' hy2 hz2).symm.trans HX.out)
          obtain ⟨bo, oo, rfl, hbo, hco⟩ := (HO.out.sl (int_fit _).len).elem (Fut.self _) (k := l) (by rw [intCells_len, HLN.out]; exact hlk)
          have c0 := At.l1 (hco l [.int .i64 y] (by simp [intCells, hy1]))
          have d0 := At.l1 (hco r [.int .i64 z] (by simp [intCells, hz1]))
          simp only [Nat.mul_one] at c0 d0
          rw [hl'] at n7
          rw [hr'] at n8
          have hl0 : (0 : Int) ≤ (l : Int) := by omega
          have hl1 : (l : Int) < (k : Int) := by omega
          have hr0 : (0 : Int) ≤ (r : Int) := by omega
          have hr1 : (r : Int) < (k : Int) := by omega
          have PJ := hide (fun w' => pjoin_any n.kind y z w' (.inr h45) hy3 hz3)
          have e0 : (n.kind == 0) = false := by rcases h45 with h | h <;> simp [h]
          have e1 : (n.kind == 1) = false := by rcases h45 with h | h <;> simp [h]
          have e2 : (n.kind == 2) = false := by rcases h45 with h | h <;> simp [h]
          have e3 : (n.kind == 3) = false := by rcases h45 with h | h <;> simp [h]
          clear h45 hl' hr' hlk hrk hy1 hy2 hy3 hz1 hz2 hz3 hco
          go_upto_region 8 with (fail)
          go_quiet ((go_at_call 204; exact Calls.quiet_of_same ((PJ.out _).mono fun _ _ h => ⟨h.1, h.2.symm⟩)))
          go_wp2_with fail
          go_meet
          case rel => exact ⟨by rw [← E.out], Step.of⟩
      case rest =>
        obtain ⟨rfl, hsx⟩ := hcut
        clear p0 hlb HAT n0 n1 n2 n3 n4 n5 n6 n7 n8
        have hz5 := hsx.size
        have HNew := hide (SlAt.one wc 1 [.int .i64 x] 3)
        have HOw := hide ((HO.out.fut (w' := wc)).alloc (.cells #[.int .i64 x] 3))
        go_wp2_with (at_builtin; go_loud (refine wpList_append_sl rfl (.tmp 88) (.tmp 90) 68 rfl eiInt (base := W.heap.size) (xs := intCells (evalT s vs (ns.take k))) rfl HOw.out (int_fit _) (ys := [[.int .i64 x]]) rfl (by simp) HNew.out (int_fit [x]) (by rw [intCells_len, HLN.out]; simp; omega) (by simp; omega) (N := k + 1) (by rw [intCells_len, HLN.out]; rfl) ?_; intro A5 c5 w5 hq1 hq2 hown5 hgr5 hbel5; have H5 := hide hown5; have HB5 := hide hbel5; clear hown5 hgr5 hbel5))
        go_roundw
        case rel =>
          refine ⟨k + 1, A5, c5, by omega, by go_num, by rw [HTX.out, lastT_snoc], rfl, ?_, ⟨?_⟩⟩
          · rw [HTX.out]
            have := H5.out
            simpa [intCells] using this
          · exact (fut W (wc.alloc _)).trans HB5.out
        case measure => simp [intOf]; omega
    · obtain rfl : k = ns.length := by omega
      go_wp2_with fail
      go_ret
      exact ⟨ret_int (by rw [List.take_length]), Step.of⟩

set_option maxHeartbeats 4000000 in
theorem ptruthR_any {w0 w1 w2 : World} (ns : List Nod) (A : Option Addr) (cap : Nat) (s : Sch) (As : Option Addr) (cs : Nat) (vs : List Val) (Av : Option Addr) (cv : Nat) (w : World) (hp : PrIn w0 ns A cap) (hs : SchIn w1 s As cs)
    (hv : SlAt w2 w2.heap.size 4 Av (vs.map Val.cells)) [f0 : Fut w0 w] [f1 : Fut w1 w] [f2 : Fut w2 w] (hvl : vs.length ≤ 4611686018427387904) :
    Calls Tryz.prog 181 #[.agg #[.slice A ns.length cap], s.val As cs, .agg #[.slice Av vs.length cv]] w fun e w' => e = .returned (.tuple #[.int .i64 (truthR ns s vs).1, .int .i64 (truthR ns s vs).2]) ∧ Step w w' := by
  obtain ⟨T, hT⟩ : ∃ T, truthR ns s vs = T := ⟨_, rfl⟩
  have HT := hide hT
  rw [hT]
  clear hT
  have pc := fun w' [Fut w0 w'] [Fut w1 w'] => pcheck_any ns A cap s As cs w' hp hs
  unfold Sch.val at pc ⊢
  obtain ⟨W, hW⟩ : ∃ W, W = ((w.alloc (.cells #[.slice A ns.length cap] 34)).alloc (.cells #[.int .i64 s.id, .slice As s.cols.length cs, .int .i64 s.next] 24)).alloc (.cells #[.slice Av vs.length cv] 67) := ⟨_, rfl⟩
  have SW : Step w W := by rw [hW]; exact Step.of
  have HPW : Hid (Blk W w.heap.size 34 [.slice A ns.length cap]) := by rw [hW]; exact ((Blk.new w [.slice A ns.length cap] 34).alloc _).alloc _
  have HSW : Hid (Blk W (w.heap.size + 1) 24 [.int .i64 s.id, .slice As s.cols.length cs, .int .i64 s.next]) := by rw [hW]; exact (Blk.new_at (by simp) [.int .i64 s.id, .slice As s.cols.length cs, .int .i64 s.next] 24).alloc _
  have HRW : Hid (Blk W (w.heap.size + 2) 67 [.slice Av vs.length cv]) := by rw [hW]; exact Blk.new_at (by simp) [.slice Av vs.length cv] 67
  have HW := hide hW
  clear hW
  by_cases hc : checkE ns s = 0
  · have CK := hide hc
    rw [hc] at pc
    have PC := hide pc
    clear pc hc
    cases hrb : rowB s vs with
    | true =>
      have hE : Hid (T = (lastT (evalT s vs ns), 0)) := by show _ = _; rw [← HT.out, truthR, CK.out, if_neg (by simp), if_pos hrb]
      have hvl2 : vs.length = s.cols.length := by
        by_cases h : vs.length = s.cols.length
        · exact h
        · rw [rowB_len h] at hrb; cases hrb
      have VL := hide hvl2
      have RB := hide hrb
      clear hrb hvl2
      go_enter Tryz.func181, Tryz.ntmps181
      go_wp2_with fail
      refine (PC.out _).mono ?_
      rintro e w3 ⟨rfl, hs3⟩
      rw [← HW.out] at hs3
      have r0 := At.z1 (HRW.out.fut (w' := w3)).at0
      have lr := (HRW.out.fut (w' := w3)).lt
      go_wp2_with fail
      have pr := prow_any (w0 := w3) (w.heap.size + 1) s As cs vs Av cv w3 (HSW.out.fut (w' := w3)) hs.fut hv hvl
      rw [RB.out] at pr
      refine pr.mono ?_
      clear pr
      rintro e w4 ⟨rfl, hs4⟩
      clear r0 lr
      have r0 := At.z1 (HRW.out.fut (w' := w4)).at0
      have lr := (HRW.out.fut (w' := w4)).lt
      go_wp2_with fail
      refine (pof_any (w.heap.size) (w.heap.size + 1) ns A cap s As cs vs Av cv w4 hp hs hv (HPW.out.fut (w' := w4)) (HSW.out.fut (w' := w4)) CK.out VL.out).mono ?_
      rintro e w5 ⟨rfl, hs5⟩
      clear r0 lr
      go_wp2_with fail
      go_ret2
      exact ⟨by rw [hE.out]; rfl, Step.of⟩
    | false =>
      have hE : Hid (T = (0, 1500)) := by show _ = _; rw [← HT.out, truthR, CK.out, if_neg (by simp), if_neg (by simp [hrb])]
      have RB := hide hrb
      clear hrb
      go_enter Tryz.func181, Tryz.ntmps181
      go_wp2_with fail
      refine (PC.out _).mono ?_
      rintro e w3 ⟨rfl, hs3⟩
      rw [← HW.out] at hs3
      have r0 := At.z1 (HRW.out.fut (w' := w3)).at0
      have lr := (HRW.out.fut (w' := w3)).lt
      go_wp2_with fail
      have pr := prow_any (w0 := w3) (w.heap.size + 1) s As cs vs Av cv w3 (HSW.out.fut (w' := w3)) hs.fut hv hvl
      rw [RB.out] at pr
      refine pr.mono ?_
      clear pr
      rintro e w4 ⟨rfl, hs4⟩
      clear r0 lr
      go_wp2_with fail
      go_ret2
      exact ⟨by rw [hE.out]; rfl, Step.of⟩
  · have hE : Hid (T = (0, checkE ns s)) := by show _ = _; rw [← HT.out, truthR, if_pos hc]
    have hcb : (checkE ns s != 0) = true := by simpa using hc
    have PC := hide pc
    clear pc hc
    go_enter Tryz.func181, Tryz.ntmps181
    go_wp2_with fail
    refine (PC.out _).mono ?_
    rintro e w3 ⟨rfl, hs3⟩
    rw [← HW.out] at hs3
    go_wp2_with fail
    go_ret2
    exact ⟨by rw [hE.out]; rfl, Step.of⟩
end Go.Proofs.YtnphokhehacfnaaGreatDoor

namespace Go.Proofs.YtnphokhehacfnaaGreatDoor
open Go.RowKit

/-- The places ahead of k whose truth is yes. -/
def yesTo (ns : List Nod) (s : Sch) (vss : List (List Val)) : Nat → List Int
  | 0 => []
  | k + 1 => if (truthR ns s (vss.getD k [])).1 = 1 then yesTo ns s vss k ++ [(k : Int)] else yesTo ns s vss k
def rowsOk (s : Sch) (vss : List (List Val)) (k : Nat) : Bool := (vss.take k).all (rowB s)
def selR (ns : List Nod) (s : Sch) (vss : List (List Val)) : List Int × Int :=
  if checkE ns s ≠ 0 then ([], checkE ns s) else if rowsOk s vss vss.length = true then (yesTo ns s vss vss.length, 0) else ([], 1500)
theorem yesTo_len (ns : List Nod) (s : Sch) (vss : List (List Val)) : ∀ k, (yesTo ns s vss k).length ≤ k
  | 0 => Nat.le_refl _
  | k + 1 => by
    have := yesTo_len ns s vss k
    rw [yesTo]
    split
    · simp; omega
    · omega
theorem rowsOk_succ {s : Sch} {vss : List (List Val)} {k : Nat} {vs : List Val} (h : rowsOk s vss k = true) (hk : vss[k]? = some vs) (hr : rowB s vs = true) : rowsOk s vss (k + 1) = true := by
  unfold rowsOk at h ⊢
  rw [List.take_add_one, hk, List.all_append, h]
  simpa using hr
theorem rowsOk_bad {s : Sch} {vss : List (List Val)} {k : Nat} {vs : List Val} (hk : vss[k]? = some vs) (hr : rowB s vs = false) : rowsOk s vss vss.length = false := by
  unfold rowsOk
  rw [List.take_length]
  cases h : vss.all (rowB s) with
  | false => rfl
  | true =>
    have := List.all_eq_true.1 h vs (List.mem_of_getElem? hk)
    rw [hr] at this; cases this

set_option maxRecDepth 100000 in
set_option maxHeartbeats 16000000 in
theorem pselRows_any {w0 w1 w2 : World} (ns : List Nod) (A : Option Addr) (cap : Nat) (s : Sch) (As : Option Addr) (cs : Nat) (rs : List RowA) (Ar : Option Addr) (cr : Nat) (w : World) (hp : PrIn w0 ns A cap) (hs : SchIn w1 s As cs) (hr : RowsIn w2 rs Ar cr) [f0 : Fut w0 w] [f1 : Fut w1 w] [f2 : Fut w2 w] :
    Calls Tryz.prog 159 #[.agg #[.slice A ns.length cap], s.val As cs, .slice Ar rs.length cr] w fun e w' => ∃ (A' : Option Addr) (c' : Nat), e = .returned (.tuple #[.slice A' (selR ns s (rs.map RowA.vs)).1.length c', .int .i64 (selR ns s (rs.map RowA.vs)).2]) ∧ Own w' w.heap.size 3 1 (.slice A' (selR ns s (rs.map RowA.vs)).1.length c') (intCells (selR ns s (rs.map RowA.vs)).1) ∧ Step w w' := by
  obtain ⟨T, hT⟩ : ∃ T, selR ns s (rs.map RowA.vs) = T := ⟨_, rfl⟩
  have HT := hide hT
  rw [hT]
  clear hT
  have z0 := f0.below.size; have z1 := f1.below.size; have z2 := f2.below.size
  have hrc := hr.hcap; have hrm := hr.hcapm
  have pc := fun w' [Fut w0 w'] [Fut w1 w'] => pcheck_any ns A cap s As cs w' hp hs
  unfold Sch.val at pc ⊢
  obtain ⟨W, hW⟩ : ∃ W, W = (w.alloc (.cells #[.slice A ns.length cap] 34)).alloc (.cells #[.int .i64 s.id, .slice As s.cols.length cs, .int .i64 s.next] 24) := ⟨_, rfl⟩
  have SW : Step w W := by rw [hW]; exact Step.of
  have HPW : Hid (Blk W w.heap.size 34 [.slice A ns.length cap]) := by rw [hW]; exact (Blk.new w [.slice A ns.length cap] 34).alloc _
  have HSW : Hid (Blk W (w.heap.size + 1) 24 [.int .i64 s.id, .slice As s.cols.length cs, .int .i64 s.next]) := by rw [hW]; exact Blk.new_at (by simp) [.int .i64 s.id, .slice As s.cols.length cs, .int .i64 s.next] 24
  have HW := hide hW
  have hzW := SW.size
  clear hW
  by_cases hc : checkE ns s = 0
  · have CK := hide hc
    rw [hc] at pc
    have PC := hide pc
    clear pc hc
    go_enter Tryz.func159, Tryz.ntmps159
    go_wp2_with (go_at_call 158; refine (PC.out _).mono ?_; rintro e w3 ⟨rfl, hs3⟩; rw [← HW.out] at hs3)
    have hz3 := hs3.size
    go_loopw [9, 10, 11, 12, 13, 22] (fun out _ _ _ _ i wr => ∃ (k m : Nat) (A' : Option Addr) (c' : Nat), k ≤ rs.length ∧ i = .int .i64 k ∧ Hid ((yesTo ns s (rs.map RowA.vs) k).length = m) ∧ out = .slice A' m c' ∧ Hid (rowsOk s (rs.map RowA.vs) k = true) ∧ Own wr w3.heap.size 3 1 (.slice A' m c') (intCells (yesTo ns s (rs.map RowA.vs) k)) ∧ Step w3 wr) (fun _ _ _ _ _ i _ => rs.length - (intOf i).toNat)
    case atStart => exact ⟨0, 0, none, 0, Nat.zero_le _, rfl, rfl, rfl, rfl, Own.nil_ _ _ _ _, Step.of⟩
    case round =>
      obtain ⟨k, m, A', c', hk, rfl, HM, rfl, HOK, hown, hst⟩ := hrel
      have HO := hide hown; clear hown
      obtain ⟨wo, rfl⟩ : ∃ x : World, x = wr := ⟨_, rfl⟩
      have hzo := hst.size
      by_cases hlt : k < rs.length
      · obtain ⟨b, off, rfl, hb, r, hrk, hri, hcell⟩ := hr.row (w' := wo) inferInstance hlt
        have hlb : b < wo.heap.size := by omega
        have HVK : Hid ((rs.map RowA.vs)[k]? = some r.vs) := by show _ = _; simp [hrk]
        have HY : Hid (yesTo ns s (rs.map RowA.vs) (k + 1) = if (truthR ns s r.vs).1 = 1 then yesTo ns s (rs.map RowA.vs) k ++ [(k : Int)] else yesTo ns s (rs.map RowA.vs) k) := by show _ = _; rw [yesTo, List.getD_eq_getElem?_getD, HVK.out]; rfl
        have tr := fun w' [Fut w0 w'] [Fut w1 w'] [Fut w2 w'] => ptruthR_any ns A cap s As cs r.vs r.A r.cap w' hp hs hri.at_ (by have h1 := hri.hcap; have h2 := hri.hcapm; omega)
        unfold Sch.val at tr
        have hkl : (k : Int) < (rs.length : Int) := by omega
        have hk0 : (0 : Int) ≤ (k : Int) := by omega
        have hmk : m ≤ k := by have := yesTo_len ns s (rs.map RowA.vs) k; rw [HM.out] at this; exact this
        have p0 := At.z1 (HPW.out.fut (w' := wo)).at0; have lp := (HPW.out.fut (w' := wo)).lt
        obtain ⟨q0, q1, q2⟩ := At.z3 (HSW.out.fut (w' := wo)).at0; have lq := (HSW.out.fut (w' := wo)).lt
        clear hrk
        cases hrb : rowB s r.vs with
        | false =>
          have hE : Hid (T = ([], 1500)) := by show _ = _; rw [← HT.out, selR, CK.out, if_neg (by simp), if_neg (by rw [List.length_map] at *; rw [← List.length_map (f := RowA.vs), rowsOk_bad HVK.out hrb]; decide)]
          have ht : truthR ns s r.vs = (0, 1500) := by rw [truthR, CK.out, if_neg (by simp), if_neg (by simp [hrb])]
          rw [ht] at tr
          have TR := hide tr
          clear tr ht hrb
          go_wp2_with (refine (TR.out _).mono ?_; rintro e w5 ⟨rfl, hs5⟩)
          go_ret2
          exact ⟨none, 0, by rw [hE.out]; rfl, by rw [hE.out]; exact Own.nil_ _ _ _ _, Step.of⟩
        | true =>
          have HOK2 := hide (rowsOk_succ HOK.out HVK.out hrb)
          obtain ⟨t, ht⟩ : ∃ t, truthR ns s r.vs = (t, 0) := ⟨lastT (evalT s r.vs ns), by rw [truthR, CK.out, if_neg (by simp), if_pos hrb]⟩
          rw [ht] at tr HY
          have TR := hide tr
          clear tr ht hrb
          by_cases h1 : t = 1
          · subst h1
            have HY1 : Hid (yesTo ns s (rs.map RowA.vs) (k + 1) = yesTo ns s (rs.map RowA.vs) k ++ [(k : Int)]) := by show _ = _; rw [HY.out, if_pos rfl]
            go_upto_region 12 with (refine (TR.out _).mono ?_; rintro e w5 ⟨rfl, hs5⟩)
            have hz5 := hs5.size
            clear p0 lp q0 q1 q2 lq hcell hlb
            have HNew := hide (SlAt.one w5 1 [.int .i64 (k : Int)] 3)
            have HOw := hide ((HO.out.fut (w' := w5)).alloc (.cells #[.int .i64 (k : Int)] 3))
            have hlen : (intCells (yesTo ns s (rs.map RowA.vs) k)).length = m := by rw [intCells_len]; exact HM.out
            have HLN := hide hlen
            clear hlen
            go_wp2_with (at_builtin; go_loud (refine wpList_append_sl rfl (.tmp 39) (.tmp 41) 68 rfl eiInt (base := w3.heap.size) (xs := intCells (yesTo ns s (rs.map RowA.vs) k)) rfl HOw.out (int_fit _) (ys := [[.int .i64 (k : Int)]]) rfl (by simp) HNew.out (int_fit [(k : Int)]) (by rw [HLN.out]; show (m + 1) * 8 ≤ _; omega) (fut w3 (w5.alloc (.cells #[.int .i64 (k : Int)] 3))).size (N := m + 1) (by rw [HLN.out]; rfl) ?_; intro A5 c5 w6 hq1 hq2 hown5 hgr5 hbel5; have H5 := hide hown5; have HB5 := hide hbel5; clear hown5 hgr5 hbel5))
            go_roundw
            case rel =>
              refine ⟨k + 1, m + 1, A5, c5, by omega, by go_num, by show _ = _; rw [HY1.out, List.length_append, HM.out]; rfl, rfl, HOK2, ?_, ⟨?_⟩⟩
              · rw [HY1.out]
                have := H5.out
                simpa [intCells] using this
              · exact (fut w3 (w5.alloc (.cells #[.int .i64 (k : Int)] 3))).trans HB5.out
            case measure => simp [intOf]; omega
          · have HY1 : Hid (yesTo ns s (rs.map RowA.vs) (k + 1) = yesTo ns s (rs.map RowA.vs) k) := by show _ = _; rw [HY.out, if_neg h1]
            have e1 : (t == 1) = false := by simpa using h1
            clear h1
            go_wp2_with (refine (TR.out _).mono ?_; rintro e w5 ⟨rfl, hs5⟩)
            go_roundw
            case rel => exact ⟨k + 1, m, A', c', by omega, by go_num, by show _ = _; rw [HY1.out, HM.out], rfl, HOK2, by rw [HY1.out]; exact HO.out.fut, Step.of⟩
            case measure => simp [intOf]; omega
      · obtain rfl : k = rs.length := by omega
        have hE : Hid (T = (yesTo ns s (rs.map RowA.vs) rs.length, 0)) := by show _ = _; rw [← HT.out, selR, CK.out, if_neg (by simp), List.length_map, if_pos HOK.out]
        go_wp2_with fail
        go_ret2
        exact ⟨A', c', by rw [hE.out]; show _ = Ending.returned (.tuple #[.slice A' (yesTo ns s (rs.map RowA.vs) rs.length).length c', _]); rw [HM.out]; rfl, by rw [hE.out]; show Own _ _ _ _ (.slice A' (yesTo ns s (rs.map RowA.vs) rs.length).length c') _; rw [HM.out]; exact HO.out.fut.more (base' := w.heap.size) (by omega), Step.of⟩
  · have hE : Hid (T = ([], checkE ns s)) := by show _ = _; rw [← HT.out, selR, if_pos hc]
    have hcb : (checkE ns s != 0) = true := by simpa using hc
    have PC := hide pc
    clear pc hc
    go_enter Tryz.func159, Tryz.ntmps159
    go_wp2_with (go_at_call 158; refine (PC.out _).mono ?_; rintro e w3 ⟨rfl, hs3⟩; rw [← HW.out] at hs3)
    go_ret2
    exact ⟨none, 0, by rw [hE.out]; rfl, by rw [hE.out]; exact Own.nil_ _ _ _ _, Step.of⟩
end Go.Proofs.YtnphokhehacfnaaGreatDoor

namespace Go.Proofs.YtnphokhehacfnaaGreatDoor
open Go.RowKit

/-- A spec's fields, statistics: where they lie. -/
structure FsIn (w : World) (fs : List Fld) (A : Option Addr) (cap : Nat) : Prop where
  hcap : fs.length ≤ cap
  hcapm : cap ≤ 9223372036854775807
  len : fs.length ≤ 4611686018427387904
  at_ : SlAt w w.heap.size 3 A (fs.map Fld.cells)
theorem FsIn.fut {w w' : World} {fs : List Fld} {A : Option Addr} {cap : Nat} (h : FsIn w fs A cap) [k : Fut w w'] : FsIn w' fs A cap := ⟨h.hcap, h.hcapm, h.len, h.at_.fut⟩

theorem pparam_any (t p : Int) (w : World) : Calls Tryz.prog 106 #[.int .i64 t, .int .i64 p] w fun e w' => e = .returned (.bool (paramB ⟨0, t, p⟩)) ∧ w = w' := by
  by_cases h0 : t = 0
  · subst h0
    go_enter Tryz.func106, Tryz.ntmps106
    go_wp2_with fail
    go_ret
    exact ⟨rfl, rfl⟩
  · by_cases h12 : t = 1 ∨ t = 2
    · have HP : Hid (paramB ⟨0, t, p⟩ = (decide (1 ≤ p) && decide (p ≤ 1024))) := by show _ = _; simp only [paramB]; rw [if_neg h0, if_pos h12]
      rw [HP.out]
      clear HP
      by_cases h1 : 1 ≤ p
      · rcases h12 with rfl | rfl
        all_goals
          clear h0
          go_enter Tryz.func106, Tryz.ntmps106
          go_wp2_with fail
          go_ret
          exact ⟨ret_bool (by simp [h1]), rfl⟩
      · rcases h12 with rfl | rfl
        all_goals
          clear h0
          go_enter Tryz.func106, Tryz.ntmps106
          go_wp2_with fail
          go_ret
          exact ⟨ret_bool (by simp; omega), rfl⟩
    · have HP : Hid (paramB ⟨0, t, p⟩ = false) := by show _ = _; simp only [paramB]; rw [if_neg h0, if_neg h12]
      rw [HP.out]
      clear HP
      have e0 : (t == 0) = false := by simpa using h0
      have e1 : (t == 1) = false := by simp; omega
      have e2 : (t == 2) = false := by simp; omega
      clear h0 h12
      go_enter Tryz.func106, Tryz.ntmps106
      go_wp2_with fail
      go_ret
      exact ⟨rfl, rfl⟩

theorem pfind1_any {w0 : World} (gi : Nat) (id : Int) (c : Col) (w : World) (hr : Blk w0 gi 3 [.int .i64 id]) [hf : Fut w0 w] :
    Calls Tryz.prog 151 #[c.val, .pointer (some ⟨gi, 0, none⟩)] w fun e w' => e = .returned (.bool (colId id c)) ∧ Step w w' := by
  have hR := (hr.fut (w' := w))
  have lr := hR.lt
  have r0 := At.z1 hR.at0
  clear hr hR
  unfold Col.val
  go_enter Tryz.func151, Tryz.ntmps151
  go_wp2_with fail
  go_ret
  exact ⟨rfl, Step.of⟩
set_option maxHeartbeats 4000000 in
theorem pfindId_any {w0 w1 : World} (gs : Nat) (s : Sch) (As : Option Addr) (cs : Nat) (id : Int) (w : World) (hbs : Blk w0 gs 24 [.int .i64 s.id, .slice As s.cols.length cs, .int .i64 s.next]) (hs : SchIn w1 s As cs) [f0 : Fut w0 w] [f1 : Fut w1 w] :
    Calls Tryz.prog 105 #[.pointer (some ⟨gs, 0, none⟩), .int .i64 id] w fun e w' => e = .returned (.int .i64 (idx (colId id) s.cols)) ∧ Step w w' := by
  have hl := hs.len
  have HB := hide (Blk.new w [.int .i64 id] 3)
  have lq := (hbs.fut (w' := w)).lt
  obtain ⟨q0, q1, q2⟩ := At.z3 (hbs.fut (w' := w)).at0
  have IX := hide (indexFuncCol_any 151 #[.pointer (some ⟨w.heap.size, 0, none⟩)] (colId id) As cs s.cols (w.alloc (.cells #[.int .i64 id] 3)) (by omega) hs.at_.fut (fun args w1 => by kernel_rfl)
    (fun c _ w' hb => by
      have : Fut (w.alloc (.cells #[.int .i64 id] 3)) w' := ⟨hb⟩
      exact (pfind1_any w.heap.size id c w' HB.out).mono fun e w2 h => ⟨h.1, h.2.below.mono hb.size⟩))
  clear hbs HB
  go_enter Tryz.func105, Tryz.ntmps105
  go_wp2_with (refine IX.out.mono ?_; rintro e w3 ⟨rfl, hb3⟩; have hs3 : Step (w.alloc (.cells #[.int .i64 id] 3)) w3 := ⟨hb3⟩)
  go_ret
  exact ⟨rfl, Step.of⟩
theorem pmay1_any {w0 : World} (gf : Nat) (f c : Fld) (w : World) (hr : Blk w0 gf 92 [.int .i64 f.source, .int .i64 f.trans, .int .i64 f.param]) [hf : Fut w0 w] :
    Calls Tryz.prog 108 #[.agg #[.int .i64 c.source, .int .i64 c.trans, .int .i64 c.param], .pointer (some ⟨gf, 0, none⟩)] w fun e w' => e = .returned (.bool (sameF f c)) ∧ Step w w' := by
  have hR := (hr.fut (w' := w))
  have lr := hR.lt
  obtain ⟨r0, r1, r2⟩ := At.z3 hR.at0
  clear hr hR
  have HO : Hid (sameF f c = (c.source == f.source && c.trans == f.trans)) := hide rfl
  rw [HO.out]
  clear HO
  cases e1 : (c.source == f.source)
  all_goals
    go_enter Tryz.func108, Tryz.ntmps108
    go_wp2_with fail
    go_ret
    exact ⟨ret_bool (by simp), Step.of⟩

theorem fld_none {s : Sch} {fs : List Fld} {k : Nat} {f : Fld} (h : idx (colId f.source) s.cols = -1) : fldB s fs k f = false := by rw [fldB, h]; rfl
theorem fld_param {s : Sch} {fs : List Fld} {k : Nat} {f : Fld} (h : paramB f = false) : fldB s fs k f = false := by rw [fldB, h]; simp
theorem fld_bool {s : Sch} {fs : List Fld} {k j : Nat} {f : Fld} {c : Col} (hi : idx (colId f.source) s.cols = (j : Int)) (hc : s.cols[j]? = some c) (ht : f.trans = 2) (hk : c.kind = 2) : fldB s fs k f = false := by
  obtain ⟨e, h⟩ := idx_yes (p := colId f.source) (l := s.cols) (by omega)
  have e2 : s.cols.findIdx (colId f.source) = j := by omega
  rw [fldB, e2, List.getD_eq_getElem?_getD, hc]
  simp [ht, hk]
theorem fld_else {s : Sch} {fs : List Fld} {k j : Nat} {f : Fld} {c : Col} (hi : idx (colId f.source) s.cols = (j : Int)) (hc : s.cols[j]? = some c) (hp : paramB f = true) (hn : ¬ (f.trans = 2 ∧ c.kind = 2)) : fldB s fs k f = !(fs.take k).any (sameF f) := by
  obtain ⟨e, h⟩ := idx_yes (p := colId f.source) (l := s.cols) (by omega)
  have e2 : s.cols.findIdx (colId f.source) = j := by omega
  rw [fldB, e2, List.getD_eq_getElem?_getD, hc, hp]
  have : (f.trans == 2 && (Option.getD (some c) (⟨0, .empty, 0⟩ : Col)).kind == 2) = false := by
    cases h1 : (f.trans == 2 && (Option.getD (some c) (⟨0, .empty, 0⟩ : Col)).kind == 2) with
    | false => rfl
    | true => simp at h1; exact absurd h1 hn
  rw [this]
  have : decide (0 ≤ idx (colId f.source) s.cols) = true := by simp; omega
  rw [this]
  simp
theorem specB_no {id : Int} {fs : List Fld} {s : Sch} (h : mayB s = false ∨ id < 0 ∨ 2147483647 < id ∨ 4 < fs.length) : specB id fs s = false := by
  unfold specB
  rcases h with h | h | h | h
  · simp [h]
  · have : decide (0 ≤ id) = false := by simp; omega
    simp [this]
  · have : decide (id ≤ 2147483647) = false := by simp; omega
    simp [this]
  · have : decide (fs.length ≤ 4) = false := by simp; omega
    simp [this]
theorem specB_yes {id : Int} {fs : List Fld} {s : Sch} (h : mayB s = true) (h1 : 0 ≤ id) (h2 : id ≤ 2147483647) (h3 : fs.length ≤ 4) : specB id fs s = fldsUpto s fs fs.length := by
  unfold specB
  simp [h, h1, h2, h3]

set_option maxRecDepth 100000 in
set_option maxHeartbeats 8000000 in
theorem pspec_any {w0 w1 : World} (id : Int) (fs : List Fld) (Af : Option Addr) (cf : Nat) (s : Sch) (As : Option Addr) (cs : Nat) (w : World) (hfs : FsIn w0 fs Af cf) (hs : SchIn w1 s As cs) [f0 : Fut w0 w] [f1 : Fut w1 w] :
    Calls Tryz.prog 55 #[.agg #[.int .i64 id, .slice Af fs.length cf], s.val As cs] w fun e w' => e = .returned (.bool (specB id fs s)) ∧ Step w w' := by
  have z0 := f0.below.size; have z1 := f1.below.size
  have hcap := hfs.hcap; have hcapm := hfs.hcapm; have hlf := hfs.len; have hls := hs.len
  have pm := fun w' [Fut w1 w'] => pmay s As cs w' hs
  unfold Sch.val at pm ⊢
  obtain ⟨W, hW⟩ : ∃ W, W = (w.alloc (.cells #[.int .i64 id, .slice Af fs.length cf] 27)).alloc (.cells #[.int .i64 s.id, .slice As s.cols.length cs, .int .i64 s.next] 24) := ⟨_, rfl⟩
  have SW : Step w W := by rw [hW]; exact Step.of
  have HSP : Hid (Blk W w.heap.size 27 [.int .i64 id, .slice Af fs.length cf]) := by rw [hW]; exact (Blk.new w [.int .i64 id, .slice Af fs.length cf] 27).alloc _
  have HSB : Hid (Blk W (w.heap.size + 1) 24 [.int .i64 s.id, .slice As s.cols.length cs, .int .i64 s.next]) := by rw [hW]; exact Blk.new_at (by simp) [.int .i64 s.id, .slice As s.cols.length cs, .int .i64 s.next] 24
  have HW := hide hW
  clear hW
  obtain ⟨R, hR⟩ : ∃ R, specB id fs s = R := ⟨_, rfl⟩
  have HR := hide hR
  rw [hR]
  clear hR
  cases hm : mayB s with
  | false =>
    have HE : Hid (specB id fs s = false) := by show _ = _; exact specB_no (.inl hm)
    rw [hm] at pm
    have PM := hide pm
    clear pm hm
    go_enter Tryz.func55, Tryz.ntmps55
    go_wp2_with (refine (PM.out _).mono ?_; rintro e w3 ⟨rfl, hs3⟩)
    go_ret
    exact ⟨by rw [← HR.out, HE.out]; rfl, Step.of⟩
  | true =>
    rw [hm] at pm
    have PM := hide pm
    have HM := hide hm
    clear pm hm
    by_cases h0 : id < 0
    · have HE : Hid (specB id fs s = false) := by show _ = _; exact specB_no (.inr (.inl h0))
      go_enter Tryz.func55, Tryz.ntmps55
      go_wp2_with (refine (PM.out _).mono ?_; rintro e w3 ⟨rfl, hs3⟩; rw [← HW.out] at hs3; obtain ⟨p0, p1⟩ := At.z2 (HSP.out.fut (w' := w3)).at0; have lp := (HSP.out.fut (w' := w3)).lt)
      go_ret
      exact ⟨by rw [← HR.out, HE.out]; rfl, Step.of⟩
    · by_cases h1 : 2147483647 < id
      · have HE : Hid (specB id fs s = false) := by show _ = _; exact specB_no (.inr (.inr (.inl h1)))
        go_enter Tryz.func55, Tryz.ntmps55
        go_wp2_with (refine (PM.out _).mono ?_; rintro e w3 ⟨rfl, hs3⟩; rw [← HW.out] at hs3; obtain ⟨p0, p1⟩ := At.z2 (HSP.out.fut (w' := w3)).at0; have lp := (HSP.out.fut (w' := w3)).lt)
        go_ret
        exact ⟨by rw [← HR.out, HE.out]; rfl, Step.of⟩
      · by_cases h4 : 4 < fs.length
        · have HE : Hid (specB id fs s = false) := by show _ = _; exact specB_no (.inr (.inr (.inr h4)))
          have h4' : (4 : Int) < (fs.length : Int) := by omega
          go_enter Tryz.func55, Tryz.ntmps55
          go_wp2_with (refine (PM.out _).mono ?_; rintro e w3 ⟨rfl, hs3⟩; rw [← HW.out] at hs3; obtain ⟨p0, p1⟩ := At.z2 (HSP.out.fut (w' := w3)).at0; have lp := (HSP.out.fut (w' := w3)).lt)
          go_ret
          exact ⟨by rw [← HR.out, HE.out]; rfl, Step.of⟩
        · have HE : Hid (specB id fs s = fldsUpto s fs fs.length) := by show _ = _; exact specB_yes HM.out (by omega) (by omega) (by omega)
          have h4' : ¬ (4 : Int) < (fs.length : Int) := by omega
          go_enter Tryz.func55, Tryz.ntmps55
          go_wp2_with (refine (PM.out _).mono ?_; rintro e w3 ⟨rfl, hs3⟩; rw [← HW.out] at hs3; obtain ⟨p0, p1⟩ := At.z2 (HSP.out.fut (w' := w3)).at0; have lp := (HSP.out.fut (w' := w3)).lt)
          clear p0 p1 lp h0 h1 h4'
          go_loopw [5, 6, 7, 30] (fun _ _ _ i wr => ∃ k : Nat, k ≤ fs.length ∧ i = .int .i64 k ∧ fldsUpto s fs k = true ∧ Step W wr) (fun _ _ _ i _ => fs.length - (intOf i).toNat)
          case atStart => exact ⟨0, Nat.zero_le _, rfl, rfl, Step.of⟩
          case round =>
            obtain ⟨k, hk, rfl, hok, hst⟩ := hrel
            have HO := hide hok; clear hok
            obtain ⟨wo, rfl⟩ : ∃ x : World, x = wr := ⟨_, rfl⟩
            have hzo := hst.size
            have hzW := SW.size
            by_cases hlt : k < fs.length
            · obtain ⟨b, off, rfl, hb, hc⟩ := hfs.at_.elem (w' := wo) inferInstance (k := k) (by simpa using hlt)
              obtain ⟨f, hfk⟩ : ∃ f, fs[k]? = some f := ⟨_, List.getElem?_eq_getElem hlt⟩
              obtain ⟨e0, e1, e2⟩ := At.l3 (hc k f.cells (by simp [hfk]))
              have hlb : b < wo.heap.size := by omega
              have HF := hide hfk
              clear hfk hc
              have HAF := hide (Blk.new wo [.int .i64 f.source, .int .i64 f.trans, .int .i64 f.param] 92)
              have FD := hide (pfindId_any (w0 := W) (w.heap.size + 1) s As cs f.source (wo.alloc (.cells #[.int .i64 f.source, .int .i64 f.trans, .int .i64 f.param] 92)) HSB.out hs)
              have hkl : (k : Int) < (fs.length : Int) := by omega
              go_upto_region 7 with (go_at_call 105; refine FD.out.mono ?_; rintro e w3 ⟨rfl, hs3⟩)
              clear e0 e1 e2 hlb FD
              have hz3 := hs3.size
              obtain ⟨a0, a1, a2⟩ := At.z3 (HAF.out.fut (w' := w3)).at0; have la := (HAF.out.fut (w' := w3)).lt
              obtain ⟨p0, p1⟩ := At.z2 (HSP.out.fut (w' := w3)).at0; have lp := (HSP.out.fut (w' := w3)).lt
              obtain ⟨q0, q1, q2⟩ := At.z3 (HSB.out.fut (w' := w3)).at0; have lq := (HSB.out.fut (w' := w3)).lt
              have PP := hide (fun w' => pparam_any f.trans f.param w')
              have HPP : Hid (paramB ⟨0, f.trans, f.param⟩ = paramB f) := hide rfl
              rw [HPP.out] at PP
              rcases idx_cases (colId f.source) s.cols with hi | ⟨j, hi, hj⟩
              · have HB := hide (fldsUpto_bad HF.out (fld_none (s := s) (fs := fs) (k := k) hi))
                rw [hi]
                clear hi
                go_wp2_with fail
                go_ret
                exact ⟨by rw [← HR.out, HE.out, HB.out]; rfl, Step.of⟩
              · obtain ⟨bc, oc, rfl, hbc, hcc⟩ := hs.at_.elem (w' := w3) inferInstance (k := j) (by simpa using hj)
                obtain ⟨c, hcj⟩ : ∃ c, s.cols[j]? = some c := ⟨_, List.getElem?_eq_getElem hj⟩
                obtain ⟨c0, c1, c2⟩ := At.l3 (hcc j c.cells (by simp [hcj]))
                have hlc : bc < w3.heap.size := by omega
                have HI := hide hi; have HCJ := hide hcj
                rw [hi]
                clear hi hcj hcc
                have hj0 : ¬ (j : Int) < 0 := by omega
                have hj0' : (0 : Int) ≤ (j : Int) := by omega
                have hj1 : (j : Int) < (s.cols.length : Int) := by omega
                cases hpb : paramB f with
                | false =>
                  have HB := hide (fldsUpto_bad HF.out (fld_param (s := s) (fs := fs) (k := k) hpb))
                  rw [hpb] at PP
                  clear hpb
                  go_wp2_with (go_at_call 106; refine (PP.out _).mono ?_; rintro e w' ⟨rfl, rfl⟩)
                  go_ret
                  exact ⟨by rw [← HR.out, HE.out, HB.out]; rfl, Step.of⟩
                | true =>
                  rw [hpb] at PP
                  have HPB := hide hpb
                  clear hpb
                  by_cases hbb : f.trans = 2 ∧ c.kind = 2
                  · have HB := hide (fldsUpto_bad HF.out (fld_bool (s := s) (fs := fs) (k := k) HI.out HCJ.out hbb.1 hbb.2))
                    obtain ⟨t2, k2⟩ := hbb
                    have t2' : (f.trans == 2) = true := by simpa using t2
                    have k2' : (c.kind == 2) = true := by simpa using k2
                    clear t2 k2
                    go_wp2_with (go_at_call 106; refine (PP.out _).mono ?_; rintro e w' ⟨rfl, rfl⟩)
                    go_ret
                    exact ⟨by rw [← HR.out, HE.out, HB.out]; rfl, Step.of⟩
                  · have HFB := hide (fld_else (s := s) (fs := fs) (k := k) HI.out HCJ.out HPB.out hbb)
                    have hbb' : (f.trans == 2) = false ∨ (f.trans == 2) = true ∧ (c.kind == 2) = false := by
                      by_cases h1 : f.trans = 2
                      · exact .inr ⟨by simpa using h1, by simp; exact fun h => hbb ⟨h1, h⟩⟩
                      · exact .inl (by simpa using h1)
                    clear hbb
                    have CT := containsFuncFld_any 108 #[.pointer (some ⟨wo.heap.size, 0, none⟩)] (sameF f) (some ⟨b, off, none⟩) cf (fs.take k) w3 (by simp; omega) (by have := hfs.at_.take_ k; rw [← List.map_take] at this; exact this) (fun args w1 => by kernel_rfl)
                      (fun c _ w' => by intro hF; have fA : Fut (wo.alloc (.cells #[.int .i64 f.source, .int .i64 f.trans, .int .i64 f.param] 92)) w' := Fut.tr (b := w3) inferInstance inferInstance; exact pmay1_any wo.heap.size f c w' HAF.out)
                    rw [show (fs.take k).length = k by simp; omega] at CT
                    have hkc : (k : Int) ≤ (cf : Int) := by omega
                    have hk0 : (0 : Int) ≤ (k : Int) := by omega
                    cases hq : (fs.take k).any (sameF f) with
                    | true =>
                      have HB := hide (fldsUpto_bad HF.out (HFB.out.trans (by rw [hq]; rfl)))
                      rw [hq] at CT
                      have CTH := hide CT
                      clear CT hq
                      rcases hbb' with t2 | ⟨t2, k2⟩
                      all_goals
                        go_wp2_with (first | (go_at_call 106; refine (PP.out _).mono ?_; rintro e w' ⟨rfl, rfl⟩) | (go_at_call 107; go_loud (with_reducible refine CTH.out.mono ?_); rintro e w4 ⟨rfl, hs4⟩))
                        go_ret
                        exact ⟨by rw [← HR.out, HE.out, HB.out]; rfl, Step.of⟩
                    | false =>
                      have HB := hide (fldsUpto_succ HO.out HF.out (HFB.out.trans (by rw [hq]; rfl)))
                      rw [hq] at CT
                      have CTH := hide CT
                      clear CT hq
                      rcases hbb' with t2 | ⟨t2, k2⟩
                      all_goals
                        go_wp2_with (first | (go_at_call 106; refine (PP.out _).mono ?_; rintro e w' ⟨rfl, rfl⟩) | (go_at_call 107; go_loud (with_reducible refine CTH.out.mono ?_); rintro e w4 ⟨rfl, hs4⟩))
                        go_roundw
                        case rel => exact ⟨k + 1, by omega, by go_num, HB.out, Step.of⟩
                        case measure => simp [intOf]; omega
            · obtain rfl : k = fs.length := by omega
              go_wp2_with fail
              go_ret
              exact ⟨by rw [← HR.out, HE.out, HO.out]; rfl, Step.of⟩
end Go.Proofs.YtnphokhehacfnaaGreatDoor

