/-
  The truths that may be of a predicate: prune.walk.
-/
import Derived.Test.YtafgfehjdbomfaaDoorTa
import Derived.Test.YtafgfehjdbomfaaDoorPn
namespace Go.Proofs.YtafgfehjdbomfaaDoor
open Go.RowKit

theorem eiSet : EI Tryd.prog 137 107 1 8 :=
  ⟨Tryd.underlying137, info_parts (show (Tryd.prog.info? 107).map (fun i => (i.zero, i.size, i.bytes)) = some (some (.int .u64 0), 1, 8) by kernel_rfl) |>.elim fun i h => ⟨i, _, h.1, h.2.1, h.2.2.1, h.2.2.2, rfl⟩, by decide, by decide⟩
def setCells (l : List Nat) : List (List Value) := l.map fun (n : Nat) => [Value.int .u64 (n : Int)]
theorem set_fit (l : List Nat) : Fit 1 (setCells l) := Fit.map (f := fun n : Nat => [Value.int .u64 (n : Int)]) (fun n => ⟨rfl, fun u hu => by simp at hu; rw [hu]; rfl⟩) l
theorem setCells_len (l : List Nat) : (setCells l).length = l.length := by simp [setCells]

set_option maxRecDepth 100000 in
set_option maxHeartbeats 16000000 in
theorem pwalk_any {w0 : World} (gp : Nat) (ns : List Nod) (A : Option Addr) (cap : Nat) (s : Sch) (g : FuncId) (caps : Array Value) (leaf : Nod → Nat) (w : World) (hp : PrIn w0 ns A cap) [f0 : Fut w0 w] (hbp : Blk w gp 24 [.slice A ns.length cap])
    (hck : checkE ns s = 0) (hlf : ∀ n, leaf n < 8) (hcall : ∀ args w, (callFunc g args).run Tryd.prog w = .ok (.enter g args) w)
    (hf : ∀ (n : Nod) (b o : Nat), n ∈ ns → n.kind = 1 ∨ n.kind = 2 → At w b o n.cells → b < w.heap.size → ∀ w' [Fut w w'], Calls Tryd.prog g (#[.pointer (some ⟨b, o, none⟩)] ++ caps) w' fun e w'' => e = .returned (.int .u64 ((leaf n : Nat) : Int)) ∧ Step w' w'') :
    Calls Tryd.prog 52 #[.pointer (some ⟨gp, 0, none⟩), .func (.func g) #[] caps] w fun e w' => e = .returned (.bool (walkB leaf ns)) ∧ Step w w' := by
  have hl := hp.len
  have z0 := f0.below.size
  have CK := hide hck; have HF := hide hf; have HLF := hide hlf
  clear hck hf hlf
  have lgp := hbp.lt
  have HPW := hide hbp
  clear hbp
  have h24 : ns.length ≤ 24 := (predB_iff.1 (checkE_inv CK.out).1).1
  obtain ⟨R, hR⟩ : ∃ R, walkB leaf ns = R := ⟨_, rfl⟩
  have HR := hide hR
  rw [hR]
  clear hR
  go_enter Tryd.func52, Tryd.ntmps52
  go_upto_region 3 with (go_at_call 58; with_reducible refine (pof_k1 _ _ (by first | rfl | simp)).mono ?_; rintro e w' ⟨rfl, rfl⟩)
  obtain ⟨W, hW⟩ : ∃ W, W = w.alloc (.cells #[.int .i64 1] 3) := ⟨_, rfl⟩
  have SW : Step w W := by rw [hW]; exact Step.of
  rw [← hW]
  clear hW
  have hzw := SW.size
  have lg0 : gp < W.heap.size := by omega
  have p0 := At.z1 (HPW.out.fut (w' := W)).at0
  go_wp2_with fail
  clear p0 lg0
  go_loopw [5, 6, 7, 8, 16] (fun last all _ _ i wr => ∃ (k : Nat) (A' : Option Addr) (c' : Nat), k ≤ ns.length ∧ i = .int .i64 k ∧ last = .int .u64 ((lastW (evalW leaf (ns.take k)) : Nat) : Int) ∧ all = .slice A' k c' ∧ Own wr W.heap.size 107 1 (.slice A' k c') (setCells (evalW leaf (ns.take k))) ∧ Step W wr) (fun _ _ _ _ i _ => ns.length - (intOf i).toNat)
  case atStart => exact ⟨0, none, 0, Nat.zero_le _, rfl, rfl, rfl, Own.nil_ _ _ _ _, Step.of⟩
  case round =>
    obtain ⟨k, A', c', hk, rfl, rfl, rfl, hown, hst⟩ := hrel
    have HO := hide hown; clear hown
    have hs1 := hst.size
    have lg0 : gp < wr.heap.size := by omega
    have p0 := At.z1 (HPW.out.fut (w' := wr)).at0
    by_cases hlt : k < ns.length
    · obtain ⟨b, off, rfl, hb, n, hn, hat⟩ := hp.node (w' := w) inferInstance hlt
      have hlb : b < wr.heap.size := by omega
      have HN := hide hn; clear hn
      have LF := hide (fun h12 => HF.out n b (off + k * 9) (List.mem_of_getElem? HN.out) h12 hat (by omega) wr)
      have HAT := hide (hat.below (fut w wr) (by omega)); clear hat
      have hkl : (k : Int) < (ns.length : Int) := by omega
      obtain ⟨x, hx8, HX, HTX⟩ : ∃ x, x < 8 ∧ Hid (stepW leaf (evalW leaf (ns.take k)) n = x) ∧ Hid (evalW leaf (ns.take (k + 1)) = evalW leaf (ns.take k) ++ [x]) := ⟨_, stepW_lt HLF.out _ _, rfl, evalW_take leaf ns k n HN.out⟩
      have HLN : Hid ((evalW leaf (ns.take k)).length = k) := by show _ = _; rw [evalW_len]; simp; omega
      obtain ⟨n0, n1, n2, n3, n4, n5, n6, n7, n8⟩ := At.l9 HAT.out
      go_upto_block 2 with (fail)
      go_cut [5, 48, 52, 58] from 29 to 78 (fun last _ _ _ wx => last = .int .u64 (x : Int) ∧ Step wr wx)
      case first =>
        have hkinds := node_kinds CK.out HN.out
        rcases hkinds with h0 | h12 | ⟨h3, l, hl', hlk⟩ | ⟨h45, l, r, hl', hr', hlk, hrk⟩
        · have E := hide ((stepW_true h0).symm.trans HX.out)
          have e0 : (n.kind == 0) = true := by simpa using h0
          clear h0
          go_wp2_with (go_at_call 58; with_reducible refine (pof_k1 _ _ (by first | rfl | simp)).mono ?_; rintro e w' ⟨rfl, rfl⟩)
          go_meet
          case rel => exact ⟨by rw [← E.out]; rfl, Step.of⟩
        · have E := hide ((stepW_leaf (acc := evalW leaf (ns.take k)) h12).symm.trans HX.out)
          have lf := LF.out h12
          rw [E.out] at lf
          have LF2 := hide lf
          have e0 : (n.kind == 0) = false := by rcases h12 with h | h <;> simp [h]
          clear lf
          have h12' : (n.kind == 1) = true ∨ (n.kind == 1) = false ∧ (n.kind == 2) = true := by rcases h12 with h | h <;> simp [h]
          clear h12
          rcases h12' with e1 | ⟨e1, e2⟩
          all_goals
            go_wp2_with (refine LF2.out.mono ?_; rintro e w' ⟨rfl, hq⟩)
            go_meet
            case rel => exact ⟨rfl, Step.of⟩
        · obtain ⟨y, hy1, hy2, hy3⟩ := evalW_get HLF.out hk hlk
          have E0 := (stepW_not h3 hl' hy2).symm.trans HX.out
          obtain ⟨bo, oo, rfl, hbo, hco⟩ := (HO.out.sl (set_fit _).len).elem (Fut.self _) (k := l) (by rw [setCells_len, HLN.out]; exact hlk)
          have c0 := At.l1 (hco l [.int .u64 (y : Int)] (by simp [setCells, hy1]))
          simp only [Nat.mul_one] at c0
          rw [hl'] at n7
          have hl0 : (0 : Int) ≤ (l : Int) := by omega
          have hl1 : (l : Int) < (k : Int) := by omega
          have pj := fun w' => psjoin_any n.kind y y w' (.inl h3) hy3 hy3
          have E : joinS n.kind y y = x := by rw [h3]; exact E0
          rw [E] at pj
          have PJ := hide pj
          have e0 : (n.kind == 0) = false := by simp [h3]
          have e1 : (n.kind == 1) = false := by simp [h3]
          have e2 : (n.kind == 2) = false := by simp [h3]
          have e3 : (n.kind == 3) = true := by simp [h3]
          clear h3 hl' hlk hy1 hy2 hy3 hco E0 E pj
          go_upto_region 15 with (fail)
          refine wp_region_held_drew (S := (fun w' => Step wr w' ∧ (∀ b o, b < wr.heap.size → w'.cell? ⟨b, o, none⟩ = wr.cell? ⟨b, o, none⟩))) (by kernel_rfl) (by (try dsimp only); (first | exact ⟨hS1, hS2⟩ | exact ⟨Step.of, (bcell (fut _ _)).1⟩)) (fun hHeld => ?_)
          refine wpAnyH_take (i := 0) (oi := ⟨some 60, _, _, _, _, _⟩) (v := ?_) rfl (by kernel_rfl) (by kernel_rfl) (by kernel_rfl) (fun _ _ _ h => h) (Or.inl ⟨by rfl, ?_⟩) (by assumption) ?_
          rotate_left
          · ((intro w hSw); (try dsimp only at hSw); go_simp; (try with_reducible rfl))
          (try simp only [Act.put, List.setIfInBounds_toArray, List.set_cons_zero, List.set_cons_succ])
          refine wpAnyH_take (i := 1) (oi := ⟨some 61, _, _, _, _, _⟩) (v := ?_) rfl (by kernel_rfl) (by kernel_rfl) (by kernel_rfl) (fun _ _ _ h => h) (Or.inl ⟨by rfl, ?_⟩) (by assumption) ?_
          rotate_left
          · ((intro w hSw); (try dsimp only at hSw); go_simp; (try with_reducible rfl))
          (try simp only [Act.put, List.setIfInBounds_toArray, List.set_cons_zero, List.set_cons_succ])
          refine wpAnyH_take (i := 2) (oi := ⟨some 62, _, _, _, _, _⟩) (v := ?_) rfl (by kernel_rfl) (by kernel_rfl) (by kernel_rfl) (fun _ _ _ h => h) (Or.inl ⟨by rfl, ?_⟩) (by assumption) ?_
          rotate_left
          · ((intro w hSw); (try dsimp only at hSw); go_simp; (try with_reducible rfl))
          (try simp only [Act.put, List.setIfInBounds_toArray, List.set_cons_zero, List.set_cons_succ])
          refine wpAnyH_take (i := 3) (oi := ⟨some 63, _, _, _, _, _⟩) (v := ?_) rfl (by kernel_rfl) (by kernel_rfl) (by kernel_rfl) (fun _ _ _ h => h) (Or.inl ⟨by rfl, ?_⟩) (by assumption) ?_
          rotate_left
          · ((intro w hSw); (try dsimp only at hSw); go_simp; (try with_reducible rfl))
          (try simp only [Act.put, List.setIfInBounds_toArray, List.set_cons_zero, List.set_cons_succ])
          refine wpAnyH_take (i := 4) (oi := ⟨some 64, _, _, _, _, _⟩) (v := ?_) rfl (by kernel_rfl) (by kernel_rfl) (by kernel_rfl) (fun _ _ _ h => h) (Or.inl ⟨by rfl, ?_⟩) (by assumption) ?_
          rotate_left
          · ((intro w hSw); (try dsimp only at hSw); go_simp; (try with_reducible rfl))
          (try simp only [Act.put, List.setIfInBounds_toArray, List.set_cons_zero, List.set_cons_succ])
          refine wpAnyH_take (i := 5) (oi := ⟨some 65, _, _, _, _, _⟩) (v := ?_) rfl (by kernel_rfl) (by kernel_rfl) (by kernel_rfl) (fun _ _ _ h => h) (Or.inl ⟨by rfl, ?_⟩) (by assumption) ?_
          rotate_left
          · ((intro w hSw); (try dsimp only at hSw); go_simp; (try with_reducible rfl))
          (try simp only [Act.put, List.setIfInBounds_toArray, List.set_cons_zero, List.set_cons_succ])
          refine wpAnyH_take (i := 6) (oi := ⟨some 66, _, _, _, _, _⟩) (v := ?_) rfl (by kernel_rfl) (by kernel_rfl) (by kernel_rfl) (fun _ _ _ h => h) (Or.inl ⟨by rfl, ?_⟩) (by assumption) ?_
          rotate_left
          · ((intro w hSw); (try dsimp only at hSw); go_simp; (try with_reducible rfl))
          (try simp only [Act.put, List.setIfInBounds_toArray, List.set_cons_zero, List.set_cons_succ])
          refine wpAnyH_take (i := 7) (oi := ⟨some 67, _, _, _, _, _⟩) (v := ?_) rfl (by kernel_rfl) (by kernel_rfl) (by kernel_rfl) (fun _ _ _ h => h) (Or.inl ⟨by rfl, ?_⟩) (by assumption) ?_
          rotate_left
          · ((intro w hSw); (try dsimp only at hSw); go_simp; (try with_reducible rfl))
          (try simp only [Act.put, List.setIfInBounds_toArray, List.set_cons_zero, List.set_cons_succ])
          refine wpAnyH_take (i := 8) (oi := ⟨some 68, _, _, _, _, _⟩) (v := ?_) rfl (by kernel_rfl) (by kernel_rfl) (by kernel_rfl) (fun _ _ _ h => h) (Or.inl ⟨by rfl, ?_⟩) (by assumption) ?_
          rotate_left
          · ((intro w hSw); (try dsimp only at hSw); go_simp; (try with_reducible rfl))
          (try simp only [Act.put, List.setIfInBounds_toArray, List.set_cons_zero, List.set_cons_succ])
          refine wpAnyH_take (i := 9) (oi := ⟨some 69, _, _, _, _, _⟩) (v := ?_) rfl (by kernel_rfl) (by kernel_rfl) (by kernel_rfl) (fun _ _ _ h => h) (Or.inl ⟨by rfl, ?_⟩) (by assumption) ?_
          rotate_left
          · ((intro w hSw); (try dsimp only at hSw); go_simp; (try with_reducible rfl))
          (try simp only [Act.put, List.setIfInBounds_toArray, List.set_cons_zero, List.set_cons_succ])
          refine wpAnyH_take (i := 10) (oi := ⟨some 70, _, _, _, _, _⟩) (v := ?_) rfl (by kernel_rfl) (by kernel_rfl) (by kernel_rfl) (fun _ _ _ h => h) (Or.inl ⟨by rfl, ?_⟩) (by assumption) ?_
          rotate_left
          · ((intro w hSw); (try dsimp only at hSw); go_simp; (try with_reducible rfl))
          (try simp only [Act.put, List.setIfInBounds_toArray, List.set_cons_zero, List.set_cons_succ])
          refine wpAnyH_take (i := 11) (oi := ⟨some 71, _, _, _, _, _⟩) (v := ?_) rfl (by kernel_rfl) (by kernel_rfl) (by kernel_rfl) (fun _ _ _ h => h) (Or.inl ⟨by rfl, ?_⟩) (by assumption) ?_
          rotate_left
          · ((intro w hSw); (try dsimp only at hSw); go_simp; (try with_reducible rfl))
          (try simp only [Act.put, List.setIfInBounds_toArray, List.set_cons_zero, List.set_cons_succ])
          refine wpAnyH_take (i := 12) (oi := ⟨some 72, _, _, _, _, _⟩) (v := ?_) rfl (by kernel_rfl) (by kernel_rfl) (by kernel_rfl) (fun _ _ _ h => h) (Or.inl ⟨by rfl, ?_⟩) (by assumption) ?_
          rotate_left
          · ((intro w hSw); (try dsimp only at hSw); go_simp; (try with_reducible rfl))
          (try simp only [Act.put, List.setIfInBounds_toArray, List.set_cons_zero, List.set_cons_succ])
          refine wpAnyH_take (i := 13) (oi := ⟨some 73, _, _, _, _, _⟩) (v := ?_) rfl (by kernel_rfl) (by kernel_rfl) (by kernel_rfl) (fun _ _ _ h => h) (Or.inl ⟨by rfl, ?_⟩) (by assumption) ?_
          rotate_left
          · ((intro w hSw); (try dsimp only at hSw); go_simp; (try with_reducible rfl))
          (try simp only [Act.put, List.setIfInBounds_toArray, List.set_cons_zero, List.set_cons_succ])
          refine wpAnyH_take (i := 14) (oi := ⟨some 74, _, _, _, _, _⟩) (v := ?_) rfl (by kernel_rfl) (by kernel_rfl) (by kernel_rfl) (fun _ _ _ h => h) (Or.inl ⟨by rfl, ?_⟩) (by assumption) ?_
          rotate_left
          · ((intro w hSw); (try dsimp only at hSw); go_simp; (try with_reducible rfl))
          (try simp only [Act.put, List.setIfInBounds_toArray, List.set_cons_zero, List.set_cons_succ])
          refine wpAnyH_take (i := 15) (oi := ⟨some 75, _, _, _, _, _⟩) (v := ?_) rfl (by kernel_rfl) (by kernel_rfl) (by kernel_rfl) (fun _ _ _ h => h) (Or.inl ⟨by rfl, ?_⟩) (by assumption) ?_
          rotate_left
          · ((intro w hSw); (try dsimp only at hSw); go_simp; (try with_reducible rfl))
          (try simp only [Act.put, List.setIfInBounds_toArray, List.set_cons_zero, List.set_cons_succ])
          refine wpAnyH_take (i := 16) (oi := ⟨some 76, _, _, _, _, _⟩) (v := ?_) rfl (by kernel_rfl) (by kernel_rfl) (by kernel_rfl) (fun _ _ _ h => h) (Or.inl ⟨by rfl, ?_⟩) (by assumption) ?_
          rotate_left
          · ((intro w hSw); (try dsimp only at hSw); go_simp; (try with_reducible rfl))
          (try simp only [Act.put, List.setIfInBounds_toArray, List.set_cons_zero, List.set_cons_succ])
          refine wpAnyH_take (i := 17) (oi := ⟨some 77, _, _, _, _, _⟩) (v := ?_) rfl (by kernel_rfl) (by kernel_rfl) (by kernel_rfl) (fun _ _ _ h => h) (Or.inl ⟨by rfl, ?_⟩) (by assumption) ?_
          rotate_left
          · ((intro w hSw); (try dsimp only at hSw); go_simp; (try with_reducible rfl))
          (try simp only [Act.put, List.setIfInBounds_toArray, List.set_cons_zero, List.set_cons_succ])
          refine wpAnyH_ready (rs := [18]) (by kernel_rfl) (by simp) ?_
          refine AllReadyH.cons (o := ⟨some 78, _, _, _, _, _⟩) rfl (fun K hK => ?_) AllReadyH.nil
          obtain ⟨hS1, hS2⟩ := hHeld
          go_simp
          (go_at_call 84; (with_reducible refine (PJ.out _).mono ?_); rintro e w' ⟨rfl, hq⟩)
          refine hK.out _ _ (by (try dsimp only); (first | exact ⟨hS1, hS2⟩ | exact ⟨Step.of, (bcell (fut _ _)).1⟩)) (fun hHeld => ?_)
          clear hK K
          (try simp only [Act.put, List.setIfInBounds_toArray, List.set_cons_zero, List.set_cons_succ])
          refine wpAnyH_take (i := 19) (oi := ⟨some 5, _, _, _, _, _⟩) (v := ?_) rfl (by kernel_rfl) (by kernel_rfl) (by kernel_rfl) (fun _ _ _ h => h) (Or.inl ⟨by rfl, ?_⟩) (by assumption) ?_
          rotate_left
          · ((intro w hSw); (try dsimp only at hSw); go_simp; (try with_reducible rfl))
          (try simp only [Act.put, List.setIfInBounds_toArray, List.set_cons_zero, List.set_cons_succ])
          refine wpAnyH_done (by kernel_rfl) ?_ _
          obtain ⟨hS1, hS2⟩ := hHeld
          go_wp2_with fail
          go_meet
          case rel => exact ⟨rfl, Step.of⟩
        · obtain ⟨y, hy1, hy2, hy3⟩ := evalW_get HLF.out hk hlk
          obtain ⟨z, hz1, hz2, hz3⟩ := evalW_get HLF.out hk hrk
          have E := (stepW_two h45 hl' hr' hy2 hz2).symm.trans HX.out
          obtain ⟨bo, oo, rfl, hbo, hco⟩ := (HO.out.sl (set_fit _).len).elem (Fut.self _) (k := l) (by rw [setCells_len, HLN.out]; exact hlk)
          have c0 := At.l1 (hco l [.int .u64 (y : Int)] (by simp [setCells, hy1]))
          have d0 := At.l1 (hco r [.int .u64 (z : Int)] (by simp [setCells, hz1]))
          simp only [Nat.mul_one] at c0 d0
          rw [hl'] at n7
          rw [hr'] at n8
          have hl0 : (0 : Int) ≤ (l : Int) := by omega
          have hl1 : (l : Int) < (k : Int) := by omega
          have hr0 : (0 : Int) ≤ (r : Int) := by omega
          have hr1 : (r : Int) < (k : Int) := by omega
          have pj := fun w' => psjoin_any n.kind y z w' (.inr h45) hy3 hz3
          rw [E] at pj
          have PJ := hide pj
          have e0 : (n.kind == 0) = false := by rcases h45 with h | h <;> simp [h]
          have e1 : (n.kind == 1) = false := by rcases h45 with h | h <;> simp [h]
          have e2 : (n.kind == 2) = false := by rcases h45 with h | h <;> simp [h]
          have e3 : (n.kind == 3) = false := by rcases h45 with h | h <;> simp [h]
          clear h45 hl' hr' hlk hrk hy1 hy2 hy3 hz1 hz2 hz3 hco E pj
          go_upto_region 8 with (fail)
          refine wp_region_held_drew (S := (fun w' => Step wr w' ∧ (∀ b o, b < wr.heap.size → w'.cell? ⟨b, o, none⟩ = wr.cell? ⟨b, o, none⟩))) (by kernel_rfl) (by (try dsimp only); (first | exact ⟨hS1, hS2⟩ | exact ⟨Step.of, (bcell (fut _ _)).1⟩)) (fun hHeld => ?_)
          refine wpAnyH_take (i := 0) (oi := ⟨some 29, _, _, _, _, _⟩) (v := ?_) rfl (by kernel_rfl) (by kernel_rfl) (by kernel_rfl) (fun _ _ _ h => h) (Or.inl ⟨by rfl, ?_⟩) (by assumption) ?_
          rotate_left
          · ((intro w hSw); (try dsimp only at hSw); go_simp; (try with_reducible rfl))
          (try simp only [Act.put, List.setIfInBounds_toArray, List.set_cons_zero, List.set_cons_succ])
          refine wpAnyH_take (i := 1) (oi := ⟨some 30, _, _, _, _, _⟩) (v := ?_) rfl (by kernel_rfl) (by kernel_rfl) (by kernel_rfl) (fun _ _ _ h => h) (Or.inl ⟨by rfl, ?_⟩) (by assumption) ?_
          rotate_left
          · ((intro w hSw); (try dsimp only at hSw); go_simp; (try with_reducible rfl))
          (try simp only [Act.put, List.setIfInBounds_toArray, List.set_cons_zero, List.set_cons_succ])
          refine wpAnyH_take (i := 2) (oi := ⟨some 31, _, _, _, _, _⟩) (v := ?_) rfl (by kernel_rfl) (by kernel_rfl) (by kernel_rfl) (fun _ _ _ h => h) (Or.inl ⟨by rfl, ?_⟩) (by assumption) ?_
          rotate_left
          · ((intro w hSw); (try dsimp only at hSw); go_simp; (try with_reducible rfl))
          (try simp only [Act.put, List.setIfInBounds_toArray, List.set_cons_zero, List.set_cons_succ])
          refine wpAnyH_take (i := 3) (oi := ⟨some 32, _, _, _, _, _⟩) (v := ?_) rfl (by kernel_rfl) (by kernel_rfl) (by kernel_rfl) (fun _ _ _ h => h) (Or.inl ⟨by rfl, ?_⟩) (by assumption) ?_
          rotate_left
          · ((intro w hSw); (try dsimp only at hSw); go_simp; (try with_reducible rfl))
          (try simp only [Act.put, List.setIfInBounds_toArray, List.set_cons_zero, List.set_cons_succ])
          refine wpAnyH_take (i := 4) (oi := ⟨some 33, _, _, _, _, _⟩) (v := ?_) rfl (by kernel_rfl) (by kernel_rfl) (by kernel_rfl) (fun _ _ _ h => h) (Or.inl ⟨by rfl, ?_⟩) (by assumption) ?_
          rotate_left
          · ((intro w hSw); (try dsimp only at hSw); go_simp; (try with_reducible rfl))
          (try simp only [Act.put, List.setIfInBounds_toArray, List.set_cons_zero, List.set_cons_succ])
          refine wpAnyH_take (i := 5) (oi := ⟨some 34, _, _, _, _, _⟩) (v := ?_) rfl (by kernel_rfl) (by kernel_rfl) (by kernel_rfl) (fun _ _ _ h => h) (Or.inl ⟨by rfl, ?_⟩) (by assumption) ?_
          rotate_left
          · ((intro w hSw); (try dsimp only at hSw); go_simp; (try with_reducible rfl))
          (try simp only [Act.put, List.setIfInBounds_toArray, List.set_cons_zero, List.set_cons_succ])
          refine wpAnyH_take (i := 6) (oi := ⟨some 35, _, _, _, _, _⟩) (v := ?_) rfl (by kernel_rfl) (by kernel_rfl) (by kernel_rfl) (fun _ _ _ h => h) (Or.inl ⟨by rfl, ?_⟩) (by assumption) ?_
          rotate_left
          · ((intro w hSw); (try dsimp only at hSw); go_simp; (try with_reducible rfl))
          (try simp only [Act.put, List.setIfInBounds_toArray, List.set_cons_zero, List.set_cons_succ])
          refine wpAnyH_take (i := 7) (oi := ⟨some 36, _, _, _, _, _⟩) (v := ?_) rfl (by kernel_rfl) (by kernel_rfl) (by kernel_rfl) (fun _ _ _ h => h) (Or.inl ⟨by rfl, ?_⟩) (by assumption) ?_
          rotate_left
          · ((intro w hSw); (try dsimp only at hSw); go_simp; (try with_reducible rfl))
          (try simp only [Act.put, List.setIfInBounds_toArray, List.set_cons_zero, List.set_cons_succ])
          refine wpAnyH_take (i := 8) (oi := ⟨some 37, _, _, _, _, _⟩) (v := ?_) rfl (by kernel_rfl) (by kernel_rfl) (by kernel_rfl) (fun _ _ _ h => h) (Or.inl ⟨by rfl, ?_⟩) (by assumption) ?_
          rotate_left
          · ((intro w hSw); (try dsimp only at hSw); go_simp; (try with_reducible rfl))
          (try simp only [Act.put, List.setIfInBounds_toArray, List.set_cons_zero, List.set_cons_succ])
          refine wpAnyH_take (i := 9) (oi := ⟨some 38, _, _, _, _, _⟩) (v := ?_) rfl (by kernel_rfl) (by kernel_rfl) (by kernel_rfl) (fun _ _ _ h => h) (Or.inl ⟨by rfl, ?_⟩) (by assumption) ?_
          rotate_left
          · ((intro w hSw); (try dsimp only at hSw); go_simp; (try with_reducible rfl))
          (try simp only [Act.put, List.setIfInBounds_toArray, List.set_cons_zero, List.set_cons_succ])
          refine wpAnyH_take (i := 10) (oi := ⟨some 39, _, _, _, _, _⟩) (v := ?_) rfl (by kernel_rfl) (by kernel_rfl) (by kernel_rfl) (fun _ _ _ h => h) (Or.inl ⟨by rfl, ?_⟩) (by assumption) ?_
          rotate_left
          · ((intro w hSw); (try dsimp only at hSw); go_simp; (try with_reducible rfl))
          (try simp only [Act.put, List.setIfInBounds_toArray, List.set_cons_zero, List.set_cons_succ])
          refine wpAnyH_take (i := 11) (oi := ⟨some 40, _, _, _, _, _⟩) (v := ?_) rfl (by kernel_rfl) (by kernel_rfl) (by kernel_rfl) (fun _ _ _ h => h) (Or.inl ⟨by rfl, ?_⟩) (by assumption) ?_
          rotate_left
          · ((intro w hSw); (try dsimp only at hSw); go_simp; (try with_reducible rfl))
          (try simp only [Act.put, List.setIfInBounds_toArray, List.set_cons_zero, List.set_cons_succ])
          refine wpAnyH_take (i := 12) (oi := ⟨some 41, _, _, _, _, _⟩) (v := ?_) rfl (by kernel_rfl) (by kernel_rfl) (by kernel_rfl) (fun _ _ _ h => h) (Or.inl ⟨by rfl, ?_⟩) (by assumption) ?_
          rotate_left
          · ((intro w hSw); (try dsimp only at hSw); go_simp; (try with_reducible rfl))
          (try simp only [Act.put, List.setIfInBounds_toArray, List.set_cons_zero, List.set_cons_succ])
          refine wpAnyH_take (i := 13) (oi := ⟨some 42, _, _, _, _, _⟩) (v := ?_) rfl (by kernel_rfl) (by kernel_rfl) (by kernel_rfl) (fun _ _ _ h => h) (Or.inl ⟨by rfl, ?_⟩) (by assumption) ?_
          rotate_left
          · ((intro w hSw); (try dsimp only at hSw); go_simp; (try with_reducible rfl))
          (try simp only [Act.put, List.setIfInBounds_toArray, List.set_cons_zero, List.set_cons_succ])
          refine wpAnyH_take (i := 14) (oi := ⟨some 43, _, _, _, _, _⟩) (v := ?_) rfl (by kernel_rfl) (by kernel_rfl) (by kernel_rfl) (fun _ _ _ h => h) (Or.inl ⟨by rfl, ?_⟩) (by assumption) ?_
          rotate_left
          · ((intro w hSw); (try dsimp only at hSw); go_simp; (try with_reducible rfl))
          (try simp only [Act.put, List.setIfInBounds_toArray, List.set_cons_zero, List.set_cons_succ])
          refine wpAnyH_take (i := 15) (oi := ⟨some 44, _, _, _, _, _⟩) (v := ?_) rfl (by kernel_rfl) (by kernel_rfl) (by kernel_rfl) (fun _ _ _ h => h) (Or.inl ⟨by rfl, ?_⟩) (by assumption) ?_
          rotate_left
          · ((intro w hSw); (try dsimp only at hSw); go_simp; (try with_reducible rfl))
          (try simp only [Act.put, List.setIfInBounds_toArray, List.set_cons_zero, List.set_cons_succ])
          refine wpAnyH_take (i := 16) (oi := ⟨some 45, _, _, _, _, _⟩) (v := ?_) rfl (by kernel_rfl) (by kernel_rfl) (by kernel_rfl) (fun _ _ _ h => h) (Or.inl ⟨by rfl, ?_⟩) (by assumption) ?_
          rotate_left
          · ((intro w hSw); (try dsimp only at hSw); go_simp; (try with_reducible rfl))
          (try simp only [Act.put, List.setIfInBounds_toArray, List.set_cons_zero, List.set_cons_succ])
          refine wpAnyH_take (i := 17) (oi := ⟨some 46, _, _, _, _, _⟩) (v := ?_) rfl (by kernel_rfl) (by kernel_rfl) (by kernel_rfl) (fun _ _ _ h => h) (Or.inl ⟨by rfl, ?_⟩) (by assumption) ?_
          rotate_left
          · ((intro w hSw); (try dsimp only at hSw); go_simp; (try with_reducible rfl))
          (try simp only [Act.put, List.setIfInBounds_toArray, List.set_cons_zero, List.set_cons_succ])
          refine wpAnyH_ready (rs := [18]) (by kernel_rfl) (by simp) ?_
          refine AllReadyH.cons (o := ⟨some 47, _, _, _, _, _⟩) rfl (fun K hK => ?_) AllReadyH.nil
          obtain ⟨hS1, hS2⟩ := hHeld
          go_simp
          (go_at_call 84; (with_reducible refine (PJ.out _).mono ?_); rintro e w' ⟨rfl, hq⟩)
          refine hK.out _ _ (by (try dsimp only); (first | exact ⟨hS1, hS2⟩ | exact ⟨Step.of, (bcell (fut _ _)).1⟩)) (fun hHeld => ?_)
          clear hK K
          (try simp only [Act.put, List.setIfInBounds_toArray, List.set_cons_zero, List.set_cons_succ])
          refine wpAnyH_take (i := 19) (oi := ⟨some 5, _, _, _, _, _⟩) (v := ?_) rfl (by kernel_rfl) (by kernel_rfl) (by kernel_rfl) (fun _ _ _ h => h) (Or.inl ⟨by rfl, ?_⟩) (by assumption) ?_
          rotate_left
          · ((intro w hSw); (try dsimp only at hSw); go_simp; (try with_reducible rfl))
          (try simp only [Act.put, List.setIfInBounds_toArray, List.set_cons_zero, List.set_cons_succ])
          refine wpAnyH_done (by kernel_rfl) ?_ _
          obtain ⟨hS1, hS2⟩ := hHeld
          go_wp2_with fail
          go_meet
          case rel => exact ⟨rfl, Step.of⟩
      case rest =>
        obtain ⟨rfl, hsx⟩ := hcut
        clear p0 hlb HAT n0 n1 n2 n3 n4 n5 n6 n7 n8 LF
        have hz5 := hsx.size
        have HNew := hide (SlAt.one wc 1 [.int .u64 (x : Int)] 107)
        have HOw := hide ((HO.out.fut (w' := wc)).alloc (.cells #[.int .u64 (x : Int)] 107))
        go_wp2_with (at_builtin; go_loud (refine wpList_append_sl rfl (.tmp 79) (.tmp 81) 137 rfl eiSet (base := W.heap.size) (xs := setCells (evalW leaf (ns.take k))) rfl HOw.out (set_fit _) (ys := [[.int .u64 (x : Int)]]) rfl (by simp) HNew.out (set_fit [x]) (by rw [setCells_len, HLN.out]; simp; omega) (by simp; omega) (N := k + 1) (by rw [setCells_len, HLN.out]; rfl) ?_; intro A5 c5 w5 hq1 hq2 hown5 hgr5 hbel5; have H5 := hide hown5; have HB5 := hide hbel5; clear hown5 hgr5 hbel5))
        go_roundw
        case rel =>
          refine ⟨k + 1, A5, c5, by omega, by go_num, by rw [HTX.out, lastW_snoc], rfl, ?_, ⟨?_⟩⟩
          · rw [HTX.out]
            have := H5.out
            simpa [setCells] using this
          · exact (fut W (wc.alloc _)).trans HB5.out
        case measure => simp [intOf]; omega
    · obtain rfl : k = ns.length := by omega
      have HA := hide (fun w' => phas_any (lastW (evalW leaf ns)) 1 w' (lastW_lt HLF.out ns) (by decide))
      have HRR : Hid ((lastW (evalW leaf ns)).testBit 1 = R) := HR
      rw [HRR.out] at HA
      rw [List.take_length]
      go_wp2_with (refine (HA.out _).mono ?_; rintro e w' ⟨rfl, rfl⟩)
      go_ret
      exact ⟨rfl, Step.of⟩
end Go.Proofs.YtafgfehjdbomfaaDoor
