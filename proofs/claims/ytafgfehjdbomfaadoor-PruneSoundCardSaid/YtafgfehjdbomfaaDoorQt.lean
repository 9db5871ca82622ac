/-
  The document's own answer: Truth.
-/
import Derived.Test.YtafgfehjdbomfaaDoorQb
import Derived.Test.YtafgfehjdbomfaaDoorQu
import Derived.Test.YtafgfehjdbomfaaDoorPt
namespace Go.Proofs.YtafgfehjdbomfaaDoor
open Go.RowKit

theorem Own.empty {w : World} {base b : Nat} (hb : w.heap.size = b) (h : base ≤ b) (e : TypeId) (size : Nat) : Own (w.alloc (.cells #[] e)) base e size (.slice (some ⟨b, 0, none⟩) 0 0) [] := by
  subst hb
  exact ⟨by simp, .inr ⟨w.heap.size, 0, #[], rfl, h, heap_alloc_new w _, by simp, by simp, by simp, by simp⟩⟩
theorem standR_leaf {n : Nod} {v : Val} (h : n.kind = 1) (hv : kindV v ≠ 0) : leafT n v = truthI (standR n.cmp (cmpV v n.v)) := by rw [standR_cmp, leafT_cmp h hv]

set_option maxRecDepth 100000 in
set_option maxHeartbeats 16000000 in
theorem rtruthR_any {w0 w1 w2 : World} (ns : List Nod) (A : Option Addr) (cap : Nat) (s : Sch) (As : Option Addr) (cs : Nat) (vs : List Val) (Av : Option Addr) (cv : Nat) (w : World) (hp : PrIn w0 ns A cap) (hs : SchIn w1 s As cs)
    (hv : SlAt w2 w2.heap.size 4 Av (vs.map Val.cells)) [f0 : Fut w0 w] [f1 : Fut w1 w] [f2 : Fut w2 w] (hvl : vs.length ≤ 4611686018427387904) (hvs : ∀ v ∈ vs, v.s.size ≤ 9223372036854775807) :
    Calls Tryd.prog 38 #[.agg #[.slice A ns.length cap], s.val As cs, .agg #[.slice Av vs.length cv]] w fun e w' => e = .returned (.tuple #[.int .i64 (truthR ns s vs).1, .int .i64 (truthR ns s vs).2]) ∧ Step w w' := by
  obtain ⟨T, hT⟩ : ∃ T, truthR ns s vs = T := ⟨_, rfl⟩
  have HT := hide hT
  rw [hT]
  clear hT
  have z0 := f0.below.size; have z1 := f1.below.size; have z2 := f2.below.size
  have HVS := hide hvs
  clear hvs
  have pc := fun w' [Fut w0 w'] [Fut w1 w'] => rcheck_any ns A cap s As cs w' hp hs
  have rr := fun w' [Fut w1 w'] [Fut w2 w'] => rrow_any s As cs vs Av cv w' hs hv hvl
  unfold Sch.val at pc rr ⊢
  obtain ⟨W, hW⟩ : ∃ W, W = ((w.alloc (.cells #[.slice A ns.length cap] 24)).alloc (.cells #[.int .i64 s.id, .slice As s.cols.length cs, .int .i64 s.next] 27)).alloc (.cells #[.slice Av vs.length cv] 54) := ⟨_, rfl⟩
  have SW : Step w W := by rw [hW]; exact Step.of
  have HPW : Hid (Blk W w.heap.size 24 [.slice A ns.length cap]) := by rw [hW]; exact ((Blk.new w [.slice A ns.length cap] 24).alloc _).alloc _
  have HSW : Hid (Blk W (w.heap.size + 1) 27 [.int .i64 s.id, .slice As s.cols.length cs, .int .i64 s.next]) := by rw [hW]; exact (Blk.new_at (by simp) [.int .i64 s.id, .slice As s.cols.length cs, .int .i64 s.next] 27).alloc _
  have HRW : Hid (Blk W (w.heap.size + 1 + 1) 54 [.slice Av vs.length cv]) := by rw [hW]; exact Blk.new_at (by simp) [.slice Av vs.length cv] 54
  have HZW : Hid (W.heap.size = w.heap.size + 1 + 1 + 1) := by rw [hW]; show _ = _; simp
  have HW := hide hW
  clear hW
  by_cases hc : checkE ns s = 0
  · have CK := hide hc
    rw [hc] at pc
    have PC := hide pc
    clear pc hc
    cases hrb : rowB s vs with
    | true =>
      have hE : Hid (T = (lastT (evalT s vs ns), 0)) := by show _ = _; rw [← HT.out, truthR, CK.out, if_neg (by simp), if_pos hrb]
      have hvl2 : vs.length = s.cols.length := by
        by_cases h : vs.length = s.cols.length
        · exact h
        · rw [rowB_len h] at hrb; cases hrb
      have VL := hide hvl2
      rw [hrb] at rr
      have RR := hide rr
      clear hrb hvl2 rr
      have h24 : ns.length ≤ 24 := (predB_iff.1 (checkE_inv CK.out).1).1
      go_enter Tryd.func38, Tryd.ntmps38
      go_wp2_with fail
      refine (PC.out _).mono ?_
      rintro e w3 ⟨rfl, hs3⟩
      rw [← HW.out] at hs3
      have r0 := At.z1 (HRW.out.fut (w' := w3)).at0
      have lr := (HRW.out.fut (w' := w3)).lt
      obtain ⟨q0, q1, q2⟩ := At.z3 (HSW.out.fut (w' := w3)).at0
      have lq := (HSW.out.fut (w' := w3)).lt
      go_wp2_with fail
      refine (RR.out _).mono ?_
      rintro e w4 ⟨rfl, hs4⟩
      clear r0 lr q0 q1 q2 lq PC RR
      have hz4 := hs4.size
      have hz3 := hs3.size
      have HE0 := hide (Own.empty (w := w4) (base := w4.heap.size) rfl (Nat.le_refl _) 3 1)
      have hzz := HZW.out
      go_wp2
      go_loopw [9, 10, 11, 12, 13] (fun ts i _ _ _ wr => ∃ (k : Nat) (A' : Option Addr) (c' : Nat), k ≤ ns.length ∧ i = .int .i64 k ∧ ts = .slice A' k c' ∧ Own wr w4.heap.size 3 1 (.slice A' k c') (intCells (evalT s vs (ns.take k))) ∧ Step w4 wr) (fun _ i _ _ _ _ => ns.length - (intOf i).toNat)
      case atStart => exact ⟨0, some ⟨w4.heap.size, 0, none⟩, 0, Nat.zero_le _, rfl, rfl, HE0.out, Step.of⟩
      case round =>
        obtain ⟨k, A', c', hk, rfl, rfl, hown, hst⟩ := hrel
        have HO := hide hown; clear hown
        have hs1 := hst.size
        have lg0 : w.heap.size < wr.heap.size := by omega
        have lg1 : w.heap.size + 1 < wr.heap.size := by omega
        have lg2 : w.heap.size + 1 + 1 < wr.heap.size := by omega
        have p0 := At.z1 (HPW.out.fut (w' := wr)).at0
        by_cases hlt : k < ns.length
        · obtain ⟨b, off, rfl, hb, n, hn, hat⟩ := hp.node (w' := wr) inferInstance hlt
          have hlb : b < wr.heap.size := by omega
          have HN := hide hn; clear hn
          have HNS := hide ((hp.strs n (List.mem_of_getElem? HN.out)).2)
          obtain ⟨n0, n1, n2, n3, n4, n5, n6, n7, n8⟩ := At.l9 hat
          clear hat
          have hkl : (k : Int) < (ns.length : Int) := by omega
          obtain ⟨x, HX, HTX⟩ : ∃ x, Hid (stepT s vs (evalT s vs (ns.take k)) n = x) ∧ Hid (evalT s vs (ns.take (k + 1)) = evalT s vs (ns.take k) ++ [x]) := ⟨_, rfl, evalT_take s vs ns k n HN.out⟩
          have HLN : Hid ((evalT s vs (ns.take k)).length = k) := by show _ = _; rw [evalT_len]; simp; omega
          obtain ⟨W1, hW1⟩ : ∃ X, X = wr.alloc (.cells #[.int .i64 n.kind, .string n.col, .int .i64 n.cmp, .int .i64 n.v.kind, .int .i64 n.v.i, .bool n.v.b, .string n.v.s, .int .i64 n.l, .int .i64 n.r] 59) := ⟨_, rfl⟩
          have S1 : Step wr W1 := by rw [hW1]; exact Step.of
          have HX1 : Hid (Blk W1 wr.heap.size 59 [.int .i64 n.kind, .string n.col, .int .i64 n.cmp, .int .i64 n.v.kind, .int .i64 n.v.i, .bool n.v.b, .string n.v.s, .int .i64 n.l, .int .i64 n.r]) := by rw [hW1]; exact Blk.new wr [.int .i64 n.kind, .string n.col, .int .i64 n.cmp, .int .i64 n.v.kind, .int .i64 n.v.i, .bool n.v.b, .string n.v.s, .int .i64 n.l, .int .i64 n.r] 59
          have hzW1 : wr.heap.size < W1.heap.size := by rw [hW1]; simp
          have HW1 := hide hW1
          clear hW1
          go_upto_block 2 with (fail)
          rw [← HW1.out]
          clear n0 n1 n2 n3 n4 n5 n6 n7 n8 p0 lg0 lg1 lg2
          have lg1 : w.heap.size + 1 < W1.heap.size := by omega
          have lg2 : w.heap.size + 1 + 1 < W1.heap.size := by omega
          go_cut [12, 13] from 39 to 104 (fun last _ wx => last = .int .i64 x ∧ Step W1 wx)
          case first =>
            have hkinds := node_kinds CK.out HN.out
            obtain ⟨n0, n1, n2, n3, n4, n5, n6, n7, n8⟩ := At.z9 HX1.out.at0
            rcases hkinds with h0 | h12 | ⟨h3, l, hl', hlk⟩ | ⟨h45, l, r, hl', hr', hlk, hrk⟩
            · have E := hide ((step_true h0).symm.trans HX.out)
              have e1 : (n.kind == 1) = false := by simp [h0]
              have e2 : (n.kind == 2) = false := by simp [h0]
              have e3 : (n.kind == 3) = false := by simp [h0]
              have e4 : (n.kind == 4) = false := by simp [h0]
              have e5 : (n.kind == 5) = false := by simp [h0]
              clear h0
              go_wp2_with fail
              go_meet
              case rel => exact ⟨by rw [← E.out], Step.of⟩
            · obtain ⟨j, hi, hj, hf⟩ := node_col CK.out HN.out h12
              obtain ⟨v, hvv⟩ : ∃ v, vs[j]? = some v := ⟨_, List.getElem?_eq_getElem (by have := VL.out; omega)⟩
              have HVM := hide (HVS.out v (List.mem_of_getElem? hvv))
              have E := hide ((step_leaf (acc := evalT s vs (ns.take k)) h12 hf hvv).symm.trans HX.out)
              obtain ⟨bv, ov, rfl, hbv, hcv⟩ := hv.elem (w' := W1) inferInstance (k := j) (by have := VL.out; simp; omega)
              obtain ⟨v0, v1, v2, v3⟩ := At.l4 (hcv j v.cells (by simp [hvv]))
              have hlv : bv < W1.heap.size := by have := (fut w2 W1).size; omega
              have fd := fun w' [Fut w1 w'] => rfind_any s As cs n.col w' hs
              unfold Sch.val at fd
              rw [hi] at fd
              have FD := hide fd
              have hj0 : (0 : Int) ≤ (j : Int) := by omega
              have hj1 : (j : Int) < (vs.length : Int) := by have := VL.out; omega
              obtain ⟨q0, q1, q2⟩ := At.z3 (HSW.out.fut (w' := W1)).at0
              have r0 := At.z1 (HRW.out.fut (w' := W1)).at0
              have nl := vnull_any v
              unfold Val.val at nl
              have NL := hide nl
              clear hcv hvv hi hf fd nl
              by_cases h1 : n.kind = 1
              · have e1 : (n.kind == 1) = true := by simpa using h1
                have H1 := hide h1
                have cm := fun w' => rcmp_any v n.v w' HVM.out HNS.out
                unfold Val.val at cm
                have CM := hide cm
                clear h1 h12 cm
                go_upto_region 14 with (fail)
                go_cut [13] from 41 to 48 (fun p wx => ∃ g : Nat, p = .pointer (some ⟨g, 0, none⟩) ∧ Blk wx g 57 [.int .i64 v.kind, .int .i64 v.i, .bool v.b, .string v.s] ∧ Step W1 wx)
                case first =>
                  refine wp_region_held_drew (S := (fun w' => Step W1 w' ∧ (∀ b o, b < W1.heap.size → w'.cell? ⟨b, o, none⟩ = W1.cell? ⟨b, o, none⟩))) (by kernel_rfl) (by (try dsimp only); (first | exact ⟨hS1, hS2⟩ | exact ⟨Step.of, (bcell (fut _ _)).1⟩)) (fun hHeld => ?_)
                  refine wpAnyH_take (i := 0) (oi := ⟨some 41, _, _, _, _, _⟩) (v := ?_) rfl (by kernel_rfl) (by kernel_rfl) (by kernel_rfl) (fun _ _ _ h => h) (Or.inl ⟨by rfl, ?_⟩) (by assumption) ?_
                  rotate_left
                  · ((intro w hSw); (try dsimp only at hSw); go_simp; (try with_reducible rfl))
                  (try simp only [Act.put, List.setIfInBounds_toArray, List.set_cons_zero, List.set_cons_succ])
                  refine wpAnyH_take (i := 1) (oi := ⟨some 42, _, _, _, _, _⟩) (v := ?_) rfl (by kernel_rfl) (by kernel_rfl) (by kernel_rfl) (fun _ _ _ h => h) (Or.inl ⟨by rfl, ?_⟩) (by assumption) ?_
                  rotate_left
                  · ((intro w hSw); (try dsimp only at hSw); go_simp; (try with_reducible rfl))
                  (try simp only [Act.put, List.setIfInBounds_toArray, List.set_cons_zero, List.set_cons_succ])
                  refine wpAnyH_take (i := 2) (oi := ⟨some 43, _, _, _, _, _⟩) (v := ?_) rfl (by kernel_rfl) (by kernel_rfl) (by kernel_rfl) (fun _ _ _ h => h) (Or.inl ⟨by rfl, ?_⟩) (by assumption) ?_
                  rotate_left
                  · ((intro w hSw); (try dsimp only at hSw); go_simp; (try with_reducible rfl))
                  (try simp only [Act.put, List.setIfInBounds_toArray, List.set_cons_zero, List.set_cons_succ])
                  refine wpAnyH_take (i := 3) (oi := ⟨some 44, _, _, _, _, _⟩) (v := ?_) rfl (by kernel_rfl) (by kernel_rfl) (by kernel_rfl) (fun _ _ _ h => h) (Or.inl ⟨by rfl, ?_⟩) (by assumption) ?_
                  rotate_left
                  · ((intro w hSw); (try dsimp only at hSw); go_simp; (try with_reducible rfl))
                  (try simp only [Act.put, List.setIfInBounds_toArray, List.set_cons_zero, List.set_cons_succ])
                  refine wpAnyH_take (i := 4) (oi := ⟨some 45, _, _, _, _, _⟩) (v := ?_) rfl (by kernel_rfl) (by kernel_rfl) (by kernel_rfl) (fun _ _ _ h => h) (Or.inl ⟨by rfl, ?_⟩) (by assumption) ?_
                  rotate_left
                  · ((intro w hSw); (try dsimp only at hSw); go_simp; (try with_reducible rfl))
                  (try simp only [Act.put, List.setIfInBounds_toArray, List.set_cons_zero, List.set_cons_succ])
                  refine wpAnyH_ready (rs := [5, 8]) (by kernel_rfl) (by simp) ?_
                  refine AllReadyH.cons (o := ⟨some 46, _, _, _, _, _⟩) rfl (fun K hK => ?_) (AllReadyH.cons (o := ⟨some 13, _, _, _, _, _⟩) rfl (fun K hK => ?_) AllReadyH.nil)
                  · obtain ⟨hS1, hS2⟩ := hHeld
                    go_simp
                    (go_at_call 75; (with_reducible refine (FD.out _).mono ?_); rintro e w7 ⟨rfl, hq7⟩)
                    refine hK.out _ _ (by (try dsimp only); (first | exact ⟨hS1, hS2⟩ | exact ⟨Step.of, (bcell (fut _ _)).1⟩)) (fun hHeld => ?_)
                    clear hK K
                    (try simp only [Act.put, List.setIfInBounds_toArray, List.set_cons_zero, List.set_cons_succ])
                    refine wpAnyH_take (i := 6) (oi := ⟨some 47, _, _, _, _, _⟩) (v := ?_) rfl (by kernel_rfl) (by kernel_rfl) (by kernel_rfl) (fun _ _ _ h => h) (Or.inl ⟨by rfl, ?_⟩) (by assumption) ?_
                    rotate_left
                    · ((intro w hSw); (try dsimp only at hSw); go_simp; (try with_reducible rfl))
                    (try simp only [Act.put, List.setIfInBounds_toArray, List.set_cons_zero, List.set_cons_succ])
                    refine wpAnyH_take (i := 7) (oi := ⟨some 48, _, _, _, _, _⟩) (v := ?_) rfl (by kernel_rfl) (by kernel_rfl) (by kernel_rfl) (fun _ _ _ h => h) (Or.inl ⟨by rfl, ?_⟩) (by assumption) ?_
                    rotate_left
                    · ((intro w hSw); (try dsimp only at hSw); go_simp; (try with_reducible rfl))
                    (try simp only [Act.put, List.setIfInBounds_toArray, List.set_cons_zero, List.set_cons_succ])
                    refine wpAnyH_ready (rs := [8]) (by kernel_rfl) (by simp) ?_
                    refine AllReadyH.cons (o := ⟨some 13, _, _, _, _, _⟩) rfl (fun K hK => ?_) AllReadyH.nil
                    go_simp
                    refine hK.out _ _ (by (try dsimp only); (exact ⟨Step.of, (bcell (fut _ _)).1⟩)) (fun hHeld => ?_)
                    clear hK K
                    (try simp only [Act.put, List.setIfInBounds_toArray, List.set_cons_zero, List.set_cons_succ])
                    refine wpAnyH_ready (rs := [9]) (by kernel_rfl) (by simp) ?_
                    refine AllReadyH.cons (o := ⟨none, _, _, _, _, _⟩) rfl (fun K hK => ?_) AllReadyH.nil
                    go_simp
                    refine hK.out _ _ (by (try dsimp only); (exact ⟨Step.of, (bcell (fut _ _)).1⟩)) (fun hHeld => ?_)
                    clear hK K
                    (try simp only [Act.put, List.setIfInBounds_toArray, List.set_cons_zero, List.set_cons_succ])
                    refine wpAnyH_done (by kernel_rfl) ?_ _
                    go_wp2_with fail
                    go_meet
                    case rel => exact ⟨_, rfl, Blk.new w7 [.int .i64 v.kind, .int .i64 v.i, .bool v.b, .string v.s] 57, Step.of⟩
                  · go_simp
                    refine hK.out _ _ (by (try dsimp only); (exact ⟨Step.of, (bcell (fut _ _)).1⟩)) (fun hHeld => ?_)
                    clear hK K
                    (try simp only [Act.put, List.setIfInBounds_toArray, List.set_cons_zero, List.set_cons_succ])
                    refine wpAnyH_ready (rs := [5]) (by kernel_rfl) (by simp) ?_
                    refine AllReadyH.cons (o := ⟨some 46, _, _, _, _, _⟩) rfl (fun K hK => ?_) AllReadyH.nil
                    obtain ⟨hS1, hS2⟩ := hHeld
                    go_simp
                    (go_at_call 75; (with_reducible refine (FD.out _).mono ?_); intro e w7 hr7; obtain ⟨rfl, hq7⟩ := hr7; have hzb := (Blk.new W1 [.int .i64 0, .int .i64 0, .bool false, .string ⟨#[]⟩] 57).fut (w' := w7); obtain ⟨y0, y1, y2, y3⟩ := At.z4 hzb.at0; have fy := hzb.free; have ly := hzb.lt; have HZY := hide hzb; clear hzb)
                    refine hK.out _ _ (by (try dsimp only); (first | exact ⟨hS1, hS2⟩ | exact ⟨Step.of, (bcell (fut _ _)).1⟩)) (fun hHeld => ?_)
                    clear hK K
                    (try simp only [Act.put, List.setIfInBounds_toArray, List.set_cons_zero, List.set_cons_succ])
                    refine wpAnyH_take (i := 6) (oi := ⟨some 47, _, _, _, _, _⟩) (v := ?_) rfl (by kernel_rfl) (by kernel_rfl) (by kernel_rfl) (fun _ _ _ h => h) (Or.inl ⟨by rfl, ?_⟩) (by assumption) ?_
                    rotate_left
                    · ((intro w hSw); (try dsimp only at hSw); go_simp; (try with_reducible rfl))
                    (try simp only [Act.put, List.setIfInBounds_toArray, List.set_cons_zero, List.set_cons_succ])
                    refine wpAnyH_take (i := 7) (oi := ⟨some 48, _, _, _, _, _⟩) (v := ?_) rfl (by kernel_rfl) (by kernel_rfl) (by kernel_rfl) (fun _ _ _ h => h) (Or.inl ⟨by rfl, ?_⟩) (by assumption) ?_
                    rotate_left
                    · ((intro w hSw); (try dsimp only at hSw); go_simp; (try with_reducible rfl))
                    (try simp only [Act.put, List.setIfInBounds_toArray, List.set_cons_zero, List.set_cons_succ])
                    refine wpAnyH_ready (rs := [9]) (by kernel_rfl) (by simp) ?_
                    refine AllReadyH.cons (o := ⟨none, _, _, _, _, _⟩) rfl (fun K hK => ?_) AllReadyH.nil
                    go_simp
                    refine hK.out _ _ (by (try dsimp only); (exact ⟨Step.of, (bcell (fut _ _)).1⟩)) (fun hHeld => ?_)
                    clear hK K
                    (try simp only [Act.put, List.setIfInBounds_toArray, List.set_cons_zero, List.set_cons_succ])
                    refine wpAnyH_done (by kernel_rfl) ?_ _
                    go_wp2_with fail
                    go_meet
                    case rel => exact ⟨_, rfl, Blk.put4 HZY.out _ _ _ _, Step.of⟩
                case rest =>
                obtain ⟨g, rfl, hvb, hs9⟩ := hcut
                obtain ⟨w9, rfl⟩ : ∃ X : World, X = wc := ⟨_, rfl⟩
                have HV9 := hide hvb
                clear hvb v0 v1 v2 v3 q0 q1 q2 r0 n0 n1 n2 n3 n4 n5 n6 n7 n8 lg1 lg2
                go_upto_region 15 with (fail)
                obtain ⟨v0, v1, v2, v3⟩ := At.z4 HV9.out.at0
                have lv9 := HV9.out.lt
                obtain ⟨n0, n1, n2, n3, n4, n5, n6, n7, n8⟩ := At.z9 (HX1.out.fut (w' := w9)).at0
                have ln9 := (HX1.out.fut (w' := w9)).lt
                refine wp_region_held_drew (S := (fun w' => Step w9 w' ∧ (∀ b o, b < w9.heap.size → w'.cell? ⟨b, o, none⟩ = w9.cell? ⟨b, o, none⟩))) (by kernel_rfl) (by (try dsimp only); (first | exact ⟨hS1, hS2⟩ | exact ⟨Step.of, (bcell (fut _ _)).1⟩)) (fun hHeld => ?_)
                refine wpAnyH_take (i := 0) (oi := ⟨some 49, _, _, _, _, _⟩) (v := ?_) rfl (by kernel_rfl) (by kernel_rfl) (by kernel_rfl) (fun _ _ _ h => h) (Or.inl ⟨by rfl, ?_⟩) (by assumption) ?_
                rotate_left
                · ((intro w hSw); (try dsimp only at hSw); go_simp; (try with_reducible rfl))
                (try simp only [Act.put, List.setIfInBounds_toArray, List.set_cons_zero, List.set_cons_succ])
                refine wpAnyH_take (i := 1) (oi := ⟨some 50, _, _, _, _, _⟩) (v := ?_) rfl (by kernel_rfl) (by kernel_rfl) (by kernel_rfl) (fun _ _ _ h => h) (Or.inl ⟨by rfl, ?_⟩) (by assumption) ?_
                rotate_left
                · ((intro w hSw); (try dsimp only at hSw); go_simp; (try with_reducible rfl))
                (try simp only [Act.put, List.setIfInBounds_toArray, List.set_cons_zero, List.set_cons_succ])
                refine wpAnyH_take (i := 2) (oi := ⟨some 51, _, _, _, _, _⟩) (v := ?_) rfl (by kernel_rfl) (by kernel_rfl) (by kernel_rfl) (fun _ _ _ h => h) (Or.inl ⟨by rfl, ?_⟩) (by assumption) ?_
                rotate_left
                · ((intro w hSw); (try dsimp only at hSw); go_simp; (try with_reducible rfl))
                (try simp only [Act.put, List.setIfInBounds_toArray, List.set_cons_zero, List.set_cons_succ])
                refine wpAnyH_take (i := 3) (oi := ⟨some 52, _, _, _, _, _⟩) (v := ?_) rfl (by kernel_rfl) (by kernel_rfl) (by kernel_rfl) (fun _ _ _ h => h) (Or.inl ⟨by rfl, ?_⟩) (by assumption) ?_
                rotate_left
                · ((intro w hSw); (try dsimp only at hSw); go_simp; (try with_reducible rfl))
                (try simp only [Act.put, List.setIfInBounds_toArray, List.set_cons_zero, List.set_cons_succ])
                refine wpAnyH_take (i := 4) (oi := ⟨some 53, _, _, _, _, _⟩) (v := ?_) rfl (by kernel_rfl) (by kernel_rfl) (by kernel_rfl) (fun _ _ _ h => h) (Or.inl ⟨by rfl, ?_⟩) (by assumption) ?_
                rotate_left
                · ((intro w hSw); (try dsimp only at hSw); go_simp; (try with_reducible rfl))
                (try simp only [Act.put, List.setIfInBounds_toArray, List.set_cons_zero, List.set_cons_succ])
                refine wpAnyH_ready (rs := [5]) (by kernel_rfl) (by simp) ?_
                refine AllReadyH.cons (o := ⟨some 54, _, _, _, _, _⟩) rfl (fun K hK => ?_) AllReadyH.nil
                obtain ⟨hS1, hS2⟩ := hHeld
                go_simp
                (go_at_call 47; (with_reducible refine (CM.out _).mono ?_); rintro e w7 ⟨rfl, hq7⟩)
                refine hK.out _ _ (by (try dsimp only); (first | exact ⟨hS1, hS2⟩ | exact ⟨Step.of, (bcell (fut _ _)).1⟩)) (fun hHeld => ?_)
                clear hK K
                (try simp only [Act.put, List.setIfInBounds_toArray, List.set_cons_zero, List.set_cons_succ])
                refine wpAnyH_ready (rs := [6]) (by kernel_rfl) (by simp) ?_
                refine AllReadyH.cons (o := ⟨some 55, _, _, _, _, _⟩) rfl (fun K hK => ?_) AllReadyH.nil
                obtain ⟨hS1, hS2⟩ := hHeld
                go_simp
                (go_at_call 77; (with_reducible refine (rstands_any _ _ _).mono ?_); rintro e w' ⟨rfl, rfl⟩)
                refine hK.out _ _ (by (try dsimp only); (first | exact ⟨hS1, hS2⟩ | exact ⟨Step.of, (bcell (fut _ _)).1⟩)) (fun hHeld => ?_)
                clear hK K
                (try simp only [Act.put, List.setIfInBounds_toArray, List.set_cons_zero, List.set_cons_succ])
                refine wpAnyH_ready (rs := [7]) (by kernel_rfl) (by simp) ?_
                refine AllReadyH.cons (o := ⟨some 56, _, _, _, _, _⟩) rfl (fun K hK => ?_) AllReadyH.nil
                obtain ⟨hS1, hS2⟩ := hHeld
                go_simp
                (go_at_call 76; (with_reducible refine (rtruth_any _ _).mono ?_); rintro e w' ⟨rfl, rfl⟩)
                refine hK.out _ _ (by (try dsimp only); (first | exact ⟨hS1, hS2⟩ | exact ⟨Step.of, (bcell (fut _ _)).1⟩)) (fun hHeld => ?_)
                clear hK K
                (try simp only [Act.put, List.setIfInBounds_toArray, List.set_cons_zero, List.set_cons_succ])
                refine wpAnyH_take (i := 8) (oi := ⟨some 12, _, _, _, _, _⟩) (v := ?_) rfl (by kernel_rfl) (by kernel_rfl) (by kernel_rfl) (fun _ _ _ h => h) (Or.inl ⟨by rfl, ?_⟩) (by assumption) ?_
                rotate_left
                · ((intro w hSw); (try dsimp only at hSw); go_simp; (try with_reducible rfl))
                (try simp only [Act.put, List.setIfInBounds_toArray, List.set_cons_zero, List.set_cons_succ])
                refine wpAnyH_done (by kernel_rfl) ?_ _
                obtain ⟨hS1, hS2⟩ := hHeld
                clear hS1 hS2 v0 v1 v2 v3 n0 n1 n2 n3 n4 n5 n6 n7 n8 ln9 lv9
                obtain ⟨w6, rfl⟩ : ∃ X : World, X = w7 := ⟨_, rfl⟩
                obtain ⟨v0, v1, v2, v3⟩ := At.z4 (HV9.out.fut (w' := w6)).at0
                have lv9 := (HV9.out.fut (w' := w6)).lt
                cases hnb : nullB v with
                | true =>
                  have hk0 : kindV v = 0 := by simpa [nullB] using hnb
                  have HK0 := hide hk0
                  have nl := NL.out
                  rw [hnb] at nl
                  have NL2 := hide nl
                  clear nl hnb hk0
                  go_wp2_with fail
                  refine (NL2.out _).mono ?_
                  rintro e w8 ⟨rfl, hq8⟩
                  go_wp2_with fail
                  go_meet
                  case rel => exact ⟨by rw [← E.out, leafT_unk H1.out HK0.out], Step.of⟩
                | false =>
                  have hk0 : kindV v ≠ 0 := by simpa [nullB] using hnb
                  have HK0 := hide hk0
                  have nl := NL.out
                  rw [hnb] at nl
                  have NL2 := hide nl
                  clear nl hnb hk0
                  go_wp2_with fail
                  refine (NL2.out _).mono ?_
                  rintro e w8 ⟨rfl, hq8⟩
                  go_wp2_with fail
                  go_meet
                  case rel => exact ⟨by rw [← E.out, standR_leaf H1.out HK0.out], Step.of⟩
              · have h2 : n.kind = 2 := by omega
                have e1 : (n.kind == 1) = false := by simp [h2]
                have e2 : (n.kind == 2) = true := by simp [h2]
                have H2 := hide h2
                clear h1 h12 h2
                go_upto_region 19 with (fail)
                refine wp_region_held_drew (S := (fun w' => Step W1 w' ∧ (∀ b o, b < W1.heap.size → w'.cell? ⟨b, o, none⟩ = W1.cell? ⟨b, o, none⟩))) (by kernel_rfl) (by (try dsimp only); (first | exact ⟨hS1, hS2⟩ | exact ⟨Step.of, (bcell (fut _ _)).1⟩)) (fun hHeld => ?_)
                refine wpAnyH_take (i := 0) (oi := ⟨some 61, _, _, _, _, _⟩) (v := ?_) rfl (by kernel_rfl) (by kernel_rfl) (by kernel_rfl) (fun _ _ _ h => h) (Or.inl ⟨by rfl, ?_⟩) (by assumption) ?_
                rotate_left
                · ((intro w hSw); (try dsimp only at hSw); go_simp; (try with_reducible rfl))
                (try simp only [Act.put, List.setIfInBounds_toArray, List.set_cons_zero, List.set_cons_succ])
                refine wpAnyH_take (i := 1) (oi := ⟨some 62, _, _, _, _, _⟩) (v := ?_) rfl (by kernel_rfl) (by kernel_rfl) (by kernel_rfl) (fun _ _ _ h => h) (Or.inl ⟨by rfl, ?_⟩) (by assumption) ?_
                rotate_left
                · ((intro w hSw); (try dsimp only at hSw); go_simp; (try with_reducible rfl))
                (try simp only [Act.put, List.setIfInBounds_toArray, List.set_cons_zero, List.set_cons_succ])
                refine wpAnyH_take (i := 2) (oi := ⟨some 63, _, _, _, _, _⟩) (v := ?_) rfl (by kernel_rfl) (by kernel_rfl) (by kernel_rfl) (fun _ _ _ h => h) (Or.inl ⟨by rfl, ?_⟩) (by assumption) ?_
                rotate_left
                · ((intro w hSw); (try dsimp only at hSw); go_simp; (try with_reducible rfl))
                (try simp only [Act.put, List.setIfInBounds_toArray, List.set_cons_zero, List.set_cons_succ])
                refine wpAnyH_take (i := 3) (oi := ⟨some 64, _, _, _, _, _⟩) (v := ?_) rfl (by kernel_rfl) (by kernel_rfl) (by kernel_rfl) (fun _ _ _ h => h) (Or.inl ⟨by rfl, ?_⟩) (by assumption) ?_
                rotate_left
                · ((intro w hSw); (try dsimp only at hSw); go_simp; (try with_reducible rfl))
                (try simp only [Act.put, List.setIfInBounds_toArray, List.set_cons_zero, List.set_cons_succ])
                refine wpAnyH_take (i := 4) (oi := ⟨some 65, _, _, _, _, _⟩) (v := ?_) rfl (by kernel_rfl) (by kernel_rfl) (by kernel_rfl) (fun _ _ _ h => h) (Or.inl ⟨by rfl, ?_⟩) (by assumption) ?_
                rotate_left
                · ((intro w hSw); (try dsimp only at hSw); go_simp; (try with_reducible rfl))
                (try simp only [Act.put, List.setIfInBounds_toArray, List.set_cons_zero, List.set_cons_succ])
                refine wpAnyH_ready (rs := [5]) (by kernel_rfl) (by simp) ?_
                refine AllReadyH.cons (o := ⟨some 66, _, _, _, _, _⟩) rfl (fun K hK => ?_) AllReadyH.nil
                obtain ⟨hS1, hS2⟩ := hHeld
                go_simp
                (go_at_call 75; (with_reducible refine (FD.out _).mono ?_); rintro e w7 ⟨rfl, hq7⟩)
                refine hK.out _ _ (by (try dsimp only); (first | exact ⟨hS1, hS2⟩ | exact ⟨Step.of, (bcell (fut _ _)).1⟩)) (fun hHeld => ?_)
                clear hK K
                (try simp only [Act.put, List.setIfInBounds_toArray, List.set_cons_zero, List.set_cons_succ])
                refine wpAnyH_take (i := 6) (oi := ⟨some 67, _, _, _, _, _⟩) (v := ?_) rfl (by kernel_rfl) (by kernel_rfl) (by kernel_rfl) (fun _ _ _ h => h) (Or.inl ⟨by rfl, ?_⟩) (by assumption) ?_
                rotate_left
                · ((intro w hSw); (try dsimp only at hSw); go_simp; (try with_reducible rfl))
                (try simp only [Act.put, List.setIfInBounds_toArray, List.set_cons_zero, List.set_cons_succ])
                refine wpAnyH_take (i := 7) (oi := ⟨some 68, _, _, _, _, _⟩) (v := ?_) rfl (by kernel_rfl) (by kernel_rfl) (by kernel_rfl) (fun _ _ _ h => h) (Or.inl ⟨by rfl, ?_⟩) (by assumption) ?_
                rotate_left
                · ((intro w hSw); (try dsimp only at hSw); go_simp; (try with_reducible rfl))
                (try simp only [Act.put, List.setIfInBounds_toArray, List.set_cons_zero, List.set_cons_succ])
                refine wpAnyH_ready (rs := [8]) (by kernel_rfl) (by simp) ?_
                refine AllReadyH.cons (o := ⟨some 69, _, _, _, _, _⟩) rfl (fun K hK => ?_) AllReadyH.nil
                obtain ⟨hS1, hS2⟩ := hHeld
                go_simp
                (go_at_call 48; (with_reducible refine (NL.out _).mono ?_); rintro e w8 ⟨rfl, hq8⟩)
                refine hK.out _ _ (by (try dsimp only); (first | exact ⟨hS1, hS2⟩ | exact ⟨Step.of, (bcell (fut _ _)).1⟩)) (fun hHeld => ?_)
                clear hK K
                (try simp only [Act.put, List.setIfInBounds_toArray, List.set_cons_zero, List.set_cons_succ])
                refine wpAnyH_ready (rs := [9]) (by kernel_rfl) (by simp) ?_
                refine AllReadyH.cons (o := ⟨some 70, _, _, _, _, _⟩) rfl (fun K hK => ?_) AllReadyH.nil
                obtain ⟨hS1, hS2⟩ := hHeld
                go_simp
                (go_at_call 76; (with_reducible refine (rtruth_any _ _).mono ?_); rintro e w' ⟨rfl, rfl⟩)
                refine hK.out _ _ (by (try dsimp only); (first | exact ⟨hS1, hS2⟩ | exact ⟨Step.of, (bcell (fut _ _)).1⟩)) (fun hHeld => ?_)
                clear hK K
                (try simp only [Act.put, List.setIfInBounds_toArray, List.set_cons_zero, List.set_cons_succ])
                refine wpAnyH_take (i := 10) (oi := ⟨some 12, _, _, _, _, _⟩) (v := ?_) rfl (by kernel_rfl) (by kernel_rfl) (by kernel_rfl) (fun _ _ _ h => h) (Or.inl ⟨by rfl, ?_⟩) (by assumption) ?_
                rotate_left
                · ((intro w hSw); (try dsimp only at hSw); go_simp; (try with_reducible rfl))
                (try simp only [Act.put, List.setIfInBounds_toArray, List.set_cons_zero, List.set_cons_succ])
                refine wpAnyH_done (by kernel_rfl) ?_ _
                obtain ⟨hS1, hS2⟩ := hHeld
                go_wp2_with fail
                go_meet
                case rel => exact ⟨by rw [← E.out, leafT_null H2.out]; rfl, Step.of⟩
            · obtain ⟨y, hy1, hy2, hy3⟩ := evalT_get (s := s) (vs := vs) hk hlk
              have E := hide ((turn_join hy3).trans ((step_not h3 hl' hy2).symm.trans HX.out))
              obtain ⟨bo, oo, rfl, hbo, hco⟩ := ((HO.out.fut (w' := W1)).sl (int_fit _).len).elem (Fut.self _) (k := l) (by rw [intCells_len, HLN.out]; exact hlk)
              have c0 := At.l1 (hco l [.int .i64 y] (by simp [intCells, hy1]))
              simp only [Nat.mul_one] at c0
              rw [hl'] at n7
              have hl0 : (0 : Int) ≤ (l : Int) := by omega
              have hl1 : (l : Int) < (k : Int) := by omega
              have RT := hide (fun w' => rturned_any y w' hy3)
              have e1 : (n.kind == 1) = false := by simp [h3]
              have e2 : (n.kind == 2) = false := by simp [h3]
              have e3 : (n.kind == 3) = true := by simp [h3]
              clear h3 hl' hlk hy1 hy2 hy3 hco
              go_wp2_with (go_at_call 78; refine (RT.out _).mono ?_; rintro e w' ⟨rfl, rfl⟩)
              go_meet
              case rel => exact ⟨by rw [← E.out], Step.of⟩
            · obtain ⟨y, hy1, hy2, hy3⟩ := evalT_get (s := s) (vs := vs) hk hlk
              obtain ⟨z, hz1', hz2', hz3'⟩ := evalT_get (s := s) (vs := vs) hk hrk
              have E0 := hide ((step_two h45 hl' hr' hy2 hz2').symm.trans HX.out)
              obtain ⟨bo, oo, rfl, hbo, hco⟩ := ((HO.out.fut (w' := W1)).sl (int_fit _).len).elem (Fut.self _) (k := l) (by rw [intCells_len, HLN.out]; exact hlk)
              have c0 := At.l1 (hco l [.int .i64 y] (by simp [intCells, hy1]))
              have d0 := At.l1 (hco r [.int .i64 z] (by simp [intCells, hz1']))
              simp only [Nat.mul_one] at c0 d0
              rw [hl'] at n7
              rw [hr'] at n8
              have hl0 : (0 : Int) ≤ (l : Int) := by omega
              have hl1 : (l : Int) < (k : Int) := by omega
              have hr0 : (0 : Int) ≤ (r : Int) := by omega
              have hr1 : (r : Int) < (k : Int) := by omega
              have BF := hide (fun w' => rboth_any false y z w' hy3 hz3')
              have BT := hide (fun w' => rboth_any true y z w' hy3 hz3')
              have EA := hide (both_and hy3 hz3'); have EO := hide (both_or hy3 hz3')
              have e1 : (n.kind == 1) = false := by rcases h45 with h | h <;> simp [h]
              have e2 : (n.kind == 2) = false := by rcases h45 with h | h <;> simp [h]
              have e3 : (n.kind == 3) = false := by rcases h45 with h | h <;> simp [h]
              clear hl' hr' hlk hrk hy1 hy2 hy3 hz1' hz2' hz3' hco
              rcases h45 with h4 | h4
              · have e4 : (n.kind == 4) = true := by simp [h4]
                have E : Hid (bothR false y z = x) := by show _ = _; rw [EA.out, ← E0.out, h4]
                clear h4
                go_upto_region 23 with (fail)
                go_quiet ((go_at_call 79; exact Calls.quiet_of_same ((BF.out _).mono fun _ _ h => ⟨h.1, h.2.symm⟩)))
                go_wp2_with fail
                go_meet
                case rel => exact ⟨by rw [← E.out], Step.of⟩
              · have e4 : (n.kind == 4) = false := by simp [h4]
                have e5 : (n.kind == 5) = true := by simp [h4]
                have E : Hid (bothR true y z = x) := by show _ = _; rw [EO.out, ← E0.out, h4]
                clear h4
                go_upto_region 25 with (fail)
                go_quiet ((go_at_call 79; exact Calls.quiet_of_same ((BT.out _).mono fun _ _ h => ⟨h.1, h.2.symm⟩)))
                go_wp2_with fail
                go_meet
                case rel => exact ⟨by rw [← E.out], Step.of⟩
          case rest =>
            obtain ⟨rfl, hsx⟩ := hcut
            clear lg1 lg2
            have hz5 := hsx.size
            have HNew := hide (SlAt.one wc 1 [.int .i64 x] 3)
            have HOw := hide ((HO.out.fut (w' := wc)).alloc (.cells #[.int .i64 x] 3))
            go_wp2_with (at_builtin; go_loud (refine wpList_append_sl rfl (.tmp 105) (.tmp 107) 29 rfl eiInt (base := w4.heap.size) (xs := intCells (evalT s vs (ns.take k))) rfl HOw.out (int_fit _) (ys := [[.int .i64 x]]) rfl (by simp) HNew.out (int_fit [x]) (by rw [intCells_len, HLN.out]; simp; omega) (by simp; omega) (N := k + 1) (by rw [intCells_len, HLN.out]; rfl) ?_; intro A5 c5 w5 hq1 hq2 hown5 hgr5 hbel5; have H5 := hide hown5; have HB5 := hide hbel5; clear hown5 hgr5 hbel5))
            go_roundw
            case rel =>
              refine ⟨k + 1, A5, c5, by omega, by go_num, rfl, ?_, ⟨?_⟩⟩
              · rw [HTX.out]
                have := H5.out
                simpa [intCells] using this
              · exact (fut w4 (wc.alloc _)).trans HB5.out
            case measure => simp [intOf]; omega
        · obtain rfl : k = ns.length := by omega
          rw [List.take_length] at HO
          have HLN : Hid ((evalT s vs ns).length = ns.length) := evalT_len s vs ns
          by_cases hz : ns.length = 0
          · have hb0 : ((ns.length : Int) == 0) = true := by simp [hz]
            have hnil : ns = [] := List.length_eq_zero_iff.1 hz
            have HLT : Hid (lastT (evalT s vs ns) = 1) := by rw [hnil]; rfl
            clear hz hnil
            go_wp2_with fail
            go_ret2
            exact ⟨by rw [hE.out, HLT.out]; rfl, Step.of⟩
          · obtain ⟨m, hm⟩ : ∃ m, ns.length = m + 1 := ⟨ns.length - 1, by omega⟩
            have hb0 : ((ns.length : Int) == 0) = false := beq_eq_false_iff_ne.2 (by omega)
            obtain ⟨y, hy1, hy2, hy3⟩ := evalT_get (s := s) (vs := vs) (ns := ns) (k := ns.length) (l := m) (Nat.le_refl _) (by omega)
            rw [List.take_length] at hy1 hy2
            have HY : Hid (lastT (evalT s vs ns) = y) := by show _ = _; rw [← evalT_last hm]; exact hy2
            obtain ⟨bo, oo, rfl, hbo, hco⟩ := (HO.out.sl (int_fit _).len).elem (Fut.self _) (k := m) (by rw [intCells_len, HLN.out]; omega)
            have c0 := At.l1 (hco m [.int .i64 y] (by simp [intCells, hy1]))
            simp only [Nat.mul_one] at c0
            have hm1 : (ns.length : Int) - 1 = (m : Int) := by omega
            have hm2 : IntKind.i64.wrap ((ns.length : Int) - 1) = (m : Int) := by rw [IntKind.wrap_i64]; omega
            have hm0 : (0 : Int) ≤ (m : Int) := by omega
            have hm3 : (m : Int) < (ns.length : Int) := by omega
            clear hy1 hy2 hy3 hco hm hz
            go_wp2_with fail
            go_ret2
            exact ⟨by rw [hE.out, HY.out]; rfl, Step.of⟩
    | false =>
      have hE : Hid (T = (0, 1500)) := by show _ = _; rw [← HT.out, truthR, CK.out, if_neg (by simp), if_neg (by simp [hrb])]
      rw [hrb] at rr
      have RR := hide rr
      clear hrb rr
      go_enter Tryd.func38, Tryd.ntmps38
      go_wp2_with fail
      refine (PC.out _).mono ?_
      rintro e w3 ⟨rfl, hs3⟩
      rw [← HW.out] at hs3
      have r0 := At.z1 (HRW.out.fut (w' := w3)).at0
      have lr := (HRW.out.fut (w' := w3)).lt
      obtain ⟨q0, q1, q2⟩ := At.z3 (HSW.out.fut (w' := w3)).at0
      have lq := (HSW.out.fut (w' := w3)).lt
      go_wp2_with fail
      refine (RR.out _).mono ?_
      rintro e w4 ⟨rfl, hs4⟩
      clear r0 lr q0 q1 q2 lq
      go_wp2_with fail
      go_ret2
      exact ⟨by rw [hE.out]; rfl, Step.of⟩
  · have hE : Hid (T = (0, checkE ns s)) := by show _ = _; rw [← HT.out, truthR, if_pos hc]
    have hcb : (checkE ns s != 0) = true := by simpa using hc
    have PC := hide pc
    clear pc hc rr
    go_enter Tryd.func38, Tryd.ntmps38
    go_wp2_with fail
    refine (PC.out _).mono ?_
    rintro e w3 ⟨rfl, hs3⟩
    rw [← HW.out] at hs3
    go_wp2_with fail
    go_ret2
    exact ⟨by rw [hE.out]; rfl, Step.of⟩
end Go.Proofs.YtafgfehjdbomfaaDoor
