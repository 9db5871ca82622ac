/-
  The document's Rows: which rows a predicate takes.
-/
import Derived.Test.YtafgfehjdbomfaaDoorGa
import Derived.Test.YtafgfehjdbomfaaDoorQt
namespace Go.Proofs.YtafgfehjdbomfaaDoor
open Go.RowKit

set_option maxRecDepth 100000 in
set_option maxHeartbeats 16000000 in
theorem rselRows_any {w0 w1 w2 : World} (ns : List Nod) (A : Option Addr) (cap : Nat) (s : Sch) (As : Option Addr) (cs : Nat) (rs : List RowA) (Ar : Option Addr) (cr : Nat) (w : World) (hp : PrIn w0 ns A cap) (hs : SchIn w1 s As cs) (hr : RowsIn w2 rs Ar cr) [f0 : Fut w0 w] [f1 : Fut w1 w] [f2 : Fut w2 w] :
    Calls Tryd.prog 12 #[.agg #[.slice A ns.length cap], s.val As cs, .slice Ar rs.length cr] w fun e w' => ∃ (A' : Option Addr) (c' : Nat), e = .returned (.tuple #[.slice A' (selR ns s (rs.map RowA.vs)).1.length c', .int .i64 (selR ns s (rs.map RowA.vs)).2]) ∧ Own w' w.heap.size 3 1 (.slice A' (selR ns s (rs.map RowA.vs)).1.length c') (intCells (selR ns s (rs.map RowA.vs)).1) ∧ Step w w' := by
  obtain ⟨T, hT⟩ : ∃ T, selR ns s (rs.map RowA.vs) = T := ⟨_, rfl⟩
  have HT := hide hT
  rw [hT]
  clear hT
  have z0 := f0.below.size; have z1 := f1.below.size; have z2 := f2.below.size
  have hrc := hr.hcap; have hrm := hr.hcapm
  have pc := fun w' [Fut w0 w'] [Fut w1 w'] => rcheck_any ns A cap s As cs w' hp hs
  unfold Sch.val at pc ⊢
  obtain ⟨W, hW⟩ : ∃ W, W = (w.alloc (.cells #[.slice A ns.length cap] 24)).alloc (.cells #[.int .i64 s.id, .slice As s.cols.length cs, .int .i64 s.next] 27) := ⟨_, rfl⟩
  have SW : Step w W := by rw [hW]; exact Step.of
  have HPW : Hid (Blk W w.heap.size 24 [.slice A ns.length cap]) := by rw [hW]; exact (Blk.new w [.slice A ns.length cap] 24).alloc _
  have HSW : Hid (Blk W (w.heap.size + 1) 27 [.int .i64 s.id, .slice As s.cols.length cs, .int .i64 s.next]) := by rw [hW]; exact Blk.new_at (by simp) [.int .i64 s.id, .slice As s.cols.length cs, .int .i64 s.next] 27
  have HW := hide hW
  have hzW := SW.size
  clear hW
  by_cases hc : checkE ns s = 0
  · have CK := hide hc
    rw [hc] at pc
    have PC := hide pc
    clear pc hc
    go_enter Tryd.func12, Tryd.ntmps12
    go_wp2_with (go_at_call 37; refine (PC.out _).mono ?_; rintro e w3 ⟨rfl, hs3⟩; rw [← HW.out] at hs3)
    have hz3 := hs3.size
    go_loopw [9, 10, 11, 12] (fun out i _ _ wr => ∃ (k m : Nat) (A' : Option Addr) (c' : Nat), k ≤ rs.length ∧ i = .int .i64 k ∧ Hid ((yesTo ns s (rs.map RowA.vs) k).length = m) ∧ out = .slice A' m c' ∧ Hid (rowsOk s (rs.map RowA.vs) k = true) ∧ Own wr w3.heap.size 3 1 (.slice A' m c') (intCells (yesTo ns s (rs.map RowA.vs) k)) ∧ Step w3 wr) (fun _ i _ _ _ => rs.length - (intOf i).toNat)
    case atStart => exact ⟨0, 0, none, 0, Nat.zero_le _, rfl, rfl, rfl, rfl, Own.nil_ _ _ _ _, Step.of⟩
    case round =>
      obtain ⟨k, m, A', c', hk, rfl, HM, rfl, HOK, hown, hst⟩ := hrel
      have HO := hide hown; clear hown
      obtain ⟨wo, rfl⟩ : ∃ x : World, x = wr := ⟨_, rfl⟩
      have hzo := hst.size
      by_cases hlt : k < rs.length
      · obtain ⟨b, off, rfl, hb, r, hrk, hri, hcell⟩ := hr.row (w' := wo) inferInstance hlt
        have hlb : b < wo.heap.size := by omega
        have HVK : Hid ((rs.map RowA.vs)[k]? = some r.vs) := by show _ = _; simp [hrk]
        have HY : Hid (yesTo ns s (rs.map RowA.vs) (k + 1) = if (truthR ns s r.vs).1 = 1 then yesTo ns s (rs.map RowA.vs) k ++ [(k : Int)] else yesTo ns s (rs.map RowA.vs) k) := by show _ = _; rw [yesTo, List.getD_eq_getElem?_getD, HVK.out]; rfl
        have tr := fun w' [Fut w0 w'] [Fut w1 w'] [Fut w2 w'] => rtruthR_any ns A cap s As cs r.vs r.A r.cap w' hp hs hri.at_ (by have h1 := hri.hcap; have h2 := hri.hcapm; omega) hri.strs
        unfold Sch.val at tr
        have hkl : (k : Int) < (rs.length : Int) := by omega
        have hk0 : (0 : Int) ≤ (k : Int) := by omega
        have hmk : m ≤ k := by have := yesTo_len ns s (rs.map RowA.vs) k; rw [HM.out] at this; exact this
        have p0 := At.z1 (HPW.out.fut (w' := wo)).at0; have lp := (HPW.out.fut (w' := wo)).lt
        obtain ⟨q0, q1, q2⟩ := At.z3 (HSW.out.fut (w' := wo)).at0; have lq := (HSW.out.fut (w' := wo)).lt
        clear hrk
        cases hrb : rowB s r.vs with
        | false =>
          have hE : Hid (T = ([], 1500)) := by show _ = _; rw [← HT.out, selR, CK.out, if_neg (by simp), if_neg (by rw [List.length_map] at *; rw [← List.length_map (f := RowA.vs), rowsOk_bad HVK.out hrb]; decide)]
          have ht : truthR ns s r.vs = (0, 1500) := by rw [truthR, CK.out, if_neg (by simp), if_neg (by simp [hrb])]
          rw [ht] at tr
          have TR := hide tr
          clear tr ht hrb
          go_upto_region 8 with (fail)
          refine wp_region_held_drew (S := (fun w' => Step wo w' ∧ (∀ b o, b < wo.heap.size → w'.cell? ⟨b, o, none⟩ = wo.cell? ⟨b, o, none⟩))) (by kernel_rfl) (by (try dsimp only); (first | exact ⟨hS1, hS2⟩ | exact ⟨Step.of, (bcell (fut _ _)).1⟩)) (fun hHeld => ?_)
          refine wpAnyH_take (i := 0) (oi := ⟨some 26, _, _, _, _, _⟩) (v := ?_) rfl (by kernel_rfl) (by kernel_rfl) (by kernel_rfl) (fun _ _ _ h => h) (Or.inl ⟨by rfl, ?_⟩) (by assumption) ?_
          rotate_left
          · ((intro w hSw); (try dsimp only at hSw); go_simp; (try with_reducible rfl))
          (try simp only [Act.put, List.setIfInBounds_toArray, List.set_cons_zero, List.set_cons_succ])
          refine wpAnyH_take (i := 1) (oi := ⟨some 27, _, _, _, _, _⟩) (v := ?_) rfl (by kernel_rfl) (by kernel_rfl) (by kernel_rfl) (fun _ _ _ h => h) (Or.inl ⟨by rfl, ?_⟩) (by assumption) ?_
          rotate_left
          · ((intro w hSw); (try dsimp only at hSw); go_simp; (try with_reducible rfl))
          (try simp only [Act.put, List.setIfInBounds_toArray, List.set_cons_zero, List.set_cons_succ])
          refine wpAnyH_take (i := 2) (oi := ⟨some 28, _, _, _, _, _⟩) (v := ?_) rfl (by kernel_rfl) (by kernel_rfl) (by kernel_rfl) (fun _ _ _ h => h) (Or.inl ⟨by rfl, ?_⟩) (by assumption) ?_
          rotate_left
          · ((intro w hSw); (try dsimp only at hSw); go_simp; (try with_reducible rfl))
          (try simp only [Act.put, List.setIfInBounds_toArray, List.set_cons_zero, List.set_cons_succ])
          refine wpAnyH_take (i := 3) (oi := ⟨some 29, _, _, _, _, _⟩) (v := ?_) rfl (by kernel_rfl) (by kernel_rfl) (by kernel_rfl) (fun _ _ _ h => h) (Or.inl ⟨by rfl, ?_⟩) (by assumption) ?_
          rotate_left
          · ((intro w hSw); (try dsimp only at hSw); go_simp; (try with_reducible rfl))
          (try simp only [Act.put, List.setIfInBounds_toArray, List.set_cons_zero, List.set_cons_succ])
          refine wpAnyH_take (i := 4) (oi := ⟨some 30, _, _, _, _, _⟩) (v := ?_) rfl (by kernel_rfl) (by kernel_rfl) (by kernel_rfl) (fun _ _ _ h => h) (Or.inl ⟨by rfl, ?_⟩) (by assumption) ?_
          rotate_left
          · ((intro w hSw); (try dsimp only at hSw); go_simp; (try with_reducible rfl))
          (try simp only [Act.put, List.setIfInBounds_toArray, List.set_cons_zero, List.set_cons_succ])
          refine wpAnyH_take (i := 5) (oi := ⟨some 31, _, _, _, _, _⟩) (v := ?_) rfl (by kernel_rfl) (by kernel_rfl) (by kernel_rfl) (fun _ _ _ h => h) (Or.inl ⟨by rfl, ?_⟩) (by assumption) ?_
          rotate_left
          · ((intro w hSw); (try dsimp only at hSw); go_simp; (try with_reducible rfl))
          (try simp only [Act.put, List.setIfInBounds_toArray, List.set_cons_zero, List.set_cons_succ])
          refine wpAnyH_ready (rs := [6]) (by kernel_rfl) (by simp) ?_
          refine AllReadyH.cons (o := ⟨some 32, _, _, _, _, _⟩) rfl (fun K hK => ?_) AllReadyH.nil
          obtain ⟨hS1, hS2⟩ := hHeld
          go_simp
          (go_at_call 38; (with_reducible refine (TR.out _).mono ?_); rintro e w5 ⟨rfl, hs5⟩)
          refine hK.out _ _ (by (try dsimp only); (first | exact ⟨hS1, hS2⟩ | exact ⟨Step.of, (bcell (fut _ _)).1⟩)) (fun hHeld => ?_)
          clear hK K
          refine wpAnyH_take (i := 7) (oi := ⟨some 25, _, _, _, _, _⟩) (v := ?_) rfl (by kernel_rfl) (by kernel_rfl) (by kernel_rfl) (fun _ _ _ h => h) (Or.inl ⟨by rfl, ?_⟩) (by assumption) ?_
          rotate_left
          · ((intro w hSw); (try dsimp only at hSw); go_simp; (try with_reducible rfl))
          (try simp only [Act.put, List.setIfInBounds_toArray, List.set_cons_zero, List.set_cons_succ])
          refine wpAnyH_take (i := 8) (oi := ⟨some 33, _, _, _, _, _⟩) (v := ?_) rfl (by kernel_rfl) (by kernel_rfl) (by kernel_rfl) (fun _ _ _ h => h) (Or.inl ⟨by rfl, ?_⟩) (by assumption) ?_
          rotate_left
          · ((intro w hSw); (try dsimp only at hSw); go_simp; (try with_reducible rfl))
          (try simp only [Act.put, List.setIfInBounds_toArray, List.set_cons_zero, List.set_cons_succ])
          refine wpAnyH_take (i := 9) (oi := ⟨some 34, _, _, _, _, _⟩) (v := ?_) rfl (by kernel_rfl) (by kernel_rfl) (by kernel_rfl) (fun _ _ _ h => h) (Or.inl ⟨by rfl, ?_⟩) (by assumption) ?_
          rotate_left
          · ((intro w hSw); (try dsimp only at hSw); go_simp; (try with_reducible rfl))
          (try simp only [Act.put, List.setIfInBounds_toArray, List.set_cons_zero, List.set_cons_succ])
          refine wpAnyH_take (i := 10) (oi := ⟨some 11, _, _, _, _, _⟩) (v := ?_) rfl (by kernel_rfl) (by kernel_rfl) (by kernel_rfl) (fun _ _ _ h => h) (Or.inl ⟨by rfl, ?_⟩) (by assumption) ?_
          rotate_left
          · ((intro w hSw); (try dsimp only at hSw); go_simp; (try with_reducible rfl))
          (try simp only [Act.put, List.setIfInBounds_toArray, List.set_cons_zero, List.set_cons_succ])
          refine wpAnyH_take (i := 11) (oi := ⟨some 12, _, _, _, _, _⟩) (v := ?_) rfl (by kernel_rfl) (by kernel_rfl) (by kernel_rfl) (fun _ _ _ h => h) (Or.inl ⟨by rfl, ?_⟩) (by assumption) ?_
          rotate_left
          · ((intro w hSw); (try dsimp only at hSw); go_simp; (try with_reducible rfl))
          (try simp only [Act.put, List.setIfInBounds_toArray, List.set_cons_zero, List.set_cons_succ])
          refine wpAnyH_done (by kernel_rfl) ?_ _
          obtain ⟨hS1, hS2⟩ := hHeld
          go_wp2_with fail
          go_ret2
          exact ⟨none, 0, by rw [hE.out]; rfl, by rw [hE.out]; exact Own.nil_ _ _ _ _, Step.of⟩
        | true =>
          have HOK2 := hide (rowsOk_succ HOK.out HVK.out hrb)
          obtain ⟨t, ht⟩ : ∃ t, truthR ns s r.vs = (t, 0) := ⟨lastT (evalT s r.vs ns), by rw [truthR, CK.out, if_neg (by simp), if_pos hrb]⟩
          rw [ht] at tr HY
          have TR := hide tr
          clear tr ht hrb
          by_cases h1 : t = 1
          · subst h1
            have HY1 : Hid (yesTo ns s (rs.map RowA.vs) (k + 1) = yesTo ns s (rs.map RowA.vs) k ++ [(k : Int)]) := by show _ = _; rw [HY.out, if_pos rfl]
            go_upto_region 8 with (fail)
            refine wp_region_held_drew (S := (fun w' => Step wo w' ∧ (∀ b o, b < wo.heap.size → w'.cell? ⟨b, o, none⟩ = wo.cell? ⟨b, o, none⟩))) (by kernel_rfl) (by (try dsimp only); (first | exact ⟨hS1, hS2⟩ | exact ⟨Step.of, (bcell (fut _ _)).1⟩)) (fun hHeld => ?_)
            refine wpAnyH_take (i := 0) (oi := ⟨some 26, _, _, _, _, _⟩) (v := ?_) rfl (by kernel_rfl) (by kernel_rfl) (by kernel_rfl) (fun _ _ _ h => h) (Or.inl ⟨by rfl, ?_⟩) (by assumption) ?_
            rotate_left
            · ((intro w hSw); (try dsimp only at hSw); go_simp; (try with_reducible rfl))
            (try simp only [Act.put, List.setIfInBounds_toArray, List.set_cons_zero, List.set_cons_succ])
            refine wpAnyH_take (i := 1) (oi := ⟨some 27, _, _, _, _, _⟩) (v := ?_) rfl (by kernel_rfl) (by kernel_rfl) (by kernel_rfl) (fun _ _ _ h => h) (Or.inl ⟨by rfl, ?_⟩) (by assumption) ?_
            rotate_left
            · ((intro w hSw); (try dsimp only at hSw); go_simp; (try with_reducible rfl))
            (try simp only [Act.put, List.setIfInBounds_toArray, List.set_cons_zero, List.set_cons_succ])
            refine wpAnyH_take (i := 2) (oi := ⟨some 28, _, _, _, _, _⟩) (v := ?_) rfl (by kernel_rfl) (by kernel_rfl) (by kernel_rfl) (fun _ _ _ h => h) (Or.inl ⟨by rfl, ?_⟩) (by assumption) ?_
            rotate_left
            · ((intro w hSw); (try dsimp only at hSw); go_simp; (try with_reducible rfl))
            (try simp only [Act.put, List.setIfInBounds_toArray, List.set_cons_zero, List.set_cons_succ])
            refine wpAnyH_take (i := 3) (oi := ⟨some 29, _, _, _, _, _⟩) (v := ?_) rfl (by kernel_rfl) (by kernel_rfl) (by kernel_rfl) (fun _ _ _ h => h) (Or.inl ⟨by rfl, ?_⟩) (by assumption) ?_
            rotate_left
            · ((intro w hSw); (try dsimp only at hSw); go_simp; (try with_reducible rfl))
            (try simp only [Act.put, List.setIfInBounds_toArray, List.set_cons_zero, List.set_cons_succ])
            refine wpAnyH_take (i := 4) (oi := ⟨some 30, _, _, _, _, _⟩) (v := ?_) rfl (by kernel_rfl) (by kernel_rfl) (by kernel_rfl) (fun _ _ _ h => h) (Or.inl ⟨by rfl, ?_⟩) (by assumption) ?_
            rotate_left
            · ((intro w hSw); (try dsimp only at hSw); go_simp; (try with_reducible rfl))
            (try simp only [Act.put, List.setIfInBounds_toArray, List.set_cons_zero, List.set_cons_succ])
            refine wpAnyH_take (i := 5) (oi := ⟨some 31, _, _, _, _, _⟩) (v := ?_) rfl (by kernel_rfl) (by kernel_rfl) (by kernel_rfl) (fun _ _ _ h => h) (Or.inl ⟨by rfl, ?_⟩) (by assumption) ?_
            rotate_left
            · ((intro w hSw); (try dsimp only at hSw); go_simp; (try with_reducible rfl))
            (try simp only [Act.put, List.setIfInBounds_toArray, List.set_cons_zero, List.set_cons_succ])
            refine wpAnyH_ready (rs := [6]) (by kernel_rfl) (by simp) ?_
            refine AllReadyH.cons (o := ⟨some 32, _, _, _, _, _⟩) rfl (fun K hK => ?_) AllReadyH.nil
            obtain ⟨hS1, hS2⟩ := hHeld
            go_simp
            (go_at_call 38; (with_reducible refine (TR.out _).mono ?_); rintro e w5 ⟨rfl, hs5⟩)
            refine hK.out _ _ (by (try dsimp only); (first | exact ⟨hS1, hS2⟩ | exact ⟨Step.of, (bcell (fut _ _)).1⟩)) (fun hHeld => ?_)
            clear hK K
            refine wpAnyH_take (i := 7) (oi := ⟨some 25, _, _, _, _, _⟩) (v := ?_) rfl (by kernel_rfl) (by kernel_rfl) (by kernel_rfl) (fun _ _ _ h => h) (Or.inl ⟨by rfl, ?_⟩) (by assumption) ?_
            rotate_left
            · ((intro w hSw); (try dsimp only at hSw); go_simp; (try with_reducible rfl))
            (try simp only [Act.put, List.setIfInBounds_toArray, List.set_cons_zero, List.set_cons_succ])
            refine wpAnyH_take (i := 8) (oi := ⟨some 33, _, _, _, _, _⟩) (v := ?_) rfl (by kernel_rfl) (by kernel_rfl) (by kernel_rfl) (fun _ _ _ h => h) (Or.inl ⟨by rfl, ?_⟩) (by assumption) ?_
            rotate_left
            · ((intro w hSw); (try dsimp only at hSw); go_simp; (try with_reducible rfl))
            (try simp only [Act.put, List.setIfInBounds_toArray, List.set_cons_zero, List.set_cons_succ])
            refine wpAnyH_take (i := 9) (oi := ⟨some 34, _, _, _, _, _⟩) (v := ?_) rfl (by kernel_rfl) (by kernel_rfl) (by kernel_rfl) (fun _ _ _ h => h) (Or.inl ⟨by rfl, ?_⟩) (by assumption) ?_
            rotate_left
            · ((intro w hSw); (try dsimp only at hSw); go_simp; (try with_reducible rfl))
            (try simp only [Act.put, List.setIfInBounds_toArray, List.set_cons_zero, List.set_cons_succ])
            refine wpAnyH_take (i := 10) (oi := ⟨some 11, _, _, _, _, _⟩) (v := ?_) rfl (by kernel_rfl) (by kernel_rfl) (by kernel_rfl) (fun _ _ _ h => h) (Or.inl ⟨by rfl, ?_⟩) (by assumption) ?_
            rotate_left
            · ((intro w hSw); (try dsimp only at hSw); go_simp; (try with_reducible rfl))
            (try simp only [Act.put, List.setIfInBounds_toArray, List.set_cons_zero, List.set_cons_succ])
            refine wpAnyH_take (i := 11) (oi := ⟨some 12, _, _, _, _, _⟩) (v := ?_) rfl (by kernel_rfl) (by kernel_rfl) (by kernel_rfl) (fun _ _ _ h => h) (Or.inl ⟨by rfl, ?_⟩) (by assumption) ?_
            rotate_left
            · ((intro w hSw); (try dsimp only at hSw); go_simp; (try with_reducible rfl))
            (try simp only [Act.put, List.setIfInBounds_toArray, List.set_cons_zero, List.set_cons_succ])
            refine wpAnyH_done (by kernel_rfl) ?_ _
            obtain ⟨hS1, hS2⟩ := hHeld
            go_upto_region 12 with (fail)
            have hz5 := hs5.size
            clear p0 lp q0 q1 q2 lq hcell hlb
            have HNew := hide (SlAt.one w5 1 [.int .i64 (k : Int)] 3)
            have HOw := hide ((HO.out.fut (w' := w5)).alloc (.cells #[.int .i64 (k : Int)] 3))
            have hlen : (intCells (yesTo ns s (rs.map RowA.vs) k)).length = m := by rw [intCells_len]; exact HM.out
            have HLN := hide hlen
            clear hlen
            go_wp2_with (at_builtin; go_loud (refine wpList_append_sl rfl (.tmp 40) (.tmp 42) 29 rfl eiInt (base := w3.heap.size) (xs := intCells (yesTo ns s (rs.map RowA.vs) k)) rfl HOw.out (int_fit _) (ys := [[.int .i64 (k : Int)]]) rfl (by simp) HNew.out (int_fit [(k : Int)]) (by rw [HLN.out]; show (m + 1) * 8 ≤ _; omega) (fut w3 (w5.alloc (.cells #[.int .i64 (k : Int)] 3))).size (N := m + 1) (by rw [HLN.out]; rfl) ?_; intro A5 c5 w6 hq1 hq2 hown5 hgr5 hbel5; have H5 := hide hown5; have HB5 := hide hbel5; clear hown5 hgr5 hbel5))
            go_roundw
            case rel =>
              refine ⟨k + 1, m + 1, A5, c5, by omega, by go_num, by show _ = _; rw [HY1.out, List.length_append, HM.out]; rfl, rfl, HOK2, ?_, ⟨?_⟩⟩
              · rw [HY1.out]
                have := H5.out
                simpa [intCells] using this
              · exact (fut w3 (w5.alloc (.cells #[.int .i64 (k : Int)] 3))).trans HB5.out
            case measure => simp [intOf]; omega
          · have HY1 : Hid (yesTo ns s (rs.map RowA.vs) (k + 1) = yesTo ns s (rs.map RowA.vs) k) := by show _ = _; rw [HY.out, if_neg h1]
            have e1 : (t == 1) = false := by simpa using h1
            clear h1
            go_upto_region 8 with (fail)
            refine wp_region_held_drew (S := (fun w' => Step wo w' ∧ (∀ b o, b < wo.heap.size → w'.cell? ⟨b, o, none⟩ = wo.cell? ⟨b, o, none⟩))) (by kernel_rfl) (by (try dsimp only); (first | exact ⟨hS1, hS2⟩ | exact ⟨Step.of, (bcell (fut _ _)).1⟩)) (fun hHeld => ?_)
            refine wpAnyH_take (i := 0) (oi := ⟨some 26, _, _, _, _, _⟩) (v := ?_) rfl (by kernel_rfl) (by kernel_rfl) (by kernel_rfl) (fun _ _ _ h => h) (Or.inl ⟨by rfl, ?_⟩) (by assumption) ?_
            rotate_left
            · ((intro w hSw); (try dsimp only at hSw); go_simp; (try with_reducible rfl))
            (try simp only [Act.put, List.setIfInBounds_toArray, List.set_cons_zero, List.set_cons_succ])
            refine wpAnyH_take (i := 1) (oi := ⟨some 27, _, _, _, _, _⟩) (v := ?_) rfl (by kernel_rfl) (by kernel_rfl) (by kernel_rfl) (fun _ _ _ h => h) (Or.inl ⟨by rfl, ?_⟩) (by assumption) ?_
            rotate_left
            · ((intro w hSw); (try dsimp only at hSw); go_simp; (try with_reducible rfl))
            (try simp only [Act.put, List.setIfInBounds_toArray, List.set_cons_zero, List.set_cons_succ])
            refine wpAnyH_take (i := 2) (oi := ⟨some 28, _, _, _, _, _⟩) (v := ?_) rfl (by kernel_rfl) (by kernel_rfl) (by kernel_rfl) (fun _ _ _ h => h) (Or.inl ⟨by rfl, ?_⟩) (by assumption) ?_
            rotate_left
            · ((intro w hSw); (try dsimp only at hSw); go_simp; (try with_reducible rfl))
            (try simp only [Act.put, List.setIfInBounds_toArray, List.set_cons_zero, List.set_cons_succ])
            refine wpAnyH_take (i := 3) (oi := ⟨some 29, _, _, _, _, _⟩) (v := ?_) rfl (by kernel_rfl) (by kernel_rfl) (by kernel_rfl) (fun _ _ _ h => h) (Or.inl ⟨by rfl, ?_⟩) (by assumption) ?_
            rotate_left
            · ((intro w hSw); (try dsimp only at hSw); go_simp; (try with_reducible rfl))
            (try simp only [Act.put, List.setIfInBounds_toArray, List.set_cons_zero, List.set_cons_succ])
            refine wpAnyH_take (i := 4) (oi := ⟨some 30, _, _, _, _, _⟩) (v := ?_) rfl (by kernel_rfl) (by kernel_rfl) (by kernel_rfl) (fun _ _ _ h => h) (Or.inl ⟨by rfl, ?_⟩) (by assumption) ?_
            rotate_left
            · ((intro w hSw); (try dsimp only at hSw); go_simp; (try with_reducible rfl))
            (try simp only [Act.put, List.setIfInBounds_toArray, List.set_cons_zero, List.set_cons_succ])
            refine wpAnyH_take (i := 5) (oi := ⟨some 31, _, _, _, _, _⟩) (v := ?_) rfl (by kernel_rfl) (by kernel_rfl) (by kernel_rfl) (fun _ _ _ h => h) (Or.inl ⟨by rfl, ?_⟩) (by assumption) ?_
            rotate_left
            · ((intro w hSw); (try dsimp only at hSw); go_simp; (try with_reducible rfl))
            (try simp only [Act.put, List.setIfInBounds_toArray, List.set_cons_zero, List.set_cons_succ])
            refine wpAnyH_ready (rs := [6]) (by kernel_rfl) (by simp) ?_
            refine AllReadyH.cons (o := ⟨some 32, _, _, _, _, _⟩) rfl (fun K hK => ?_) AllReadyH.nil
            obtain ⟨hS1, hS2⟩ := hHeld
            go_simp
            (go_at_call 38; (with_reducible refine (TR.out _).mono ?_); rintro e w5 ⟨rfl, hs5⟩)
            refine hK.out _ _ (by (try dsimp only); (first | exact ⟨hS1, hS2⟩ | exact ⟨Step.of, (bcell (fut _ _)).1⟩)) (fun hHeld => ?_)
            clear hK K
            refine wpAnyH_take (i := 7) (oi := ⟨some 25, _, _, _, _, _⟩) (v := ?_) rfl (by kernel_rfl) (by kernel_rfl) (by kernel_rfl) (fun _ _ _ h => h) (Or.inl ⟨by rfl, ?_⟩) (by assumption) ?_
            rotate_left
            · ((intro w hSw); (try dsimp only at hSw); go_simp; (try with_reducible rfl))
            (try simp only [Act.put, List.setIfInBounds_toArray, List.set_cons_zero, List.set_cons_succ])
            refine wpAnyH_take (i := 8) (oi := ⟨some 33, _, _, _, _, _⟩) (v := ?_) rfl (by kernel_rfl) (by kernel_rfl) (by kernel_rfl) (fun _ _ _ h => h) (Or.inl ⟨by rfl, ?_⟩) (by assumption) ?_
            rotate_left
            · ((intro w hSw); (try dsimp only at hSw); go_simp; (try with_reducible rfl))
            (try simp only [Act.put, List.setIfInBounds_toArray, List.set_cons_zero, List.set_cons_succ])
            refine wpAnyH_take (i := 9) (oi := ⟨some 34, _, _, _, _, _⟩) (v := ?_) rfl (by kernel_rfl) (by kernel_rfl) (by kernel_rfl) (fun _ _ _ h => h) (Or.inl ⟨by rfl, ?_⟩) (by assumption) ?_
            rotate_left
            · ((intro w hSw); (try dsimp only at hSw); go_simp; (try with_reducible rfl))
            (try simp only [Act.put, List.setIfInBounds_toArray, List.set_cons_zero, List.set_cons_succ])
            refine wpAnyH_take (i := 10) (oi := ⟨some 11, _, _, _, _, _⟩) (v := ?_) rfl (by kernel_rfl) (by kernel_rfl) (by kernel_rfl) (fun _ _ _ h => h) (Or.inl ⟨by rfl, ?_⟩) (by assumption) ?_
            rotate_left
            · ((intro w hSw); (try dsimp only at hSw); go_simp; (try with_reducible rfl))
            (try simp only [Act.put, List.setIfInBounds_toArray, List.set_cons_zero, List.set_cons_succ])
            refine wpAnyH_take (i := 11) (oi := ⟨some 12, _, _, _, _, _⟩) (v := ?_) rfl (by kernel_rfl) (by kernel_rfl) (by kernel_rfl) (fun _ _ _ h => h) (Or.inl ⟨by rfl, ?_⟩) (by assumption) ?_
            rotate_left
            · ((intro w hSw); (try dsimp only at hSw); go_simp; (try with_reducible rfl))
            (try simp only [Act.put, List.setIfInBounds_toArray, List.set_cons_zero, List.set_cons_succ])
            refine wpAnyH_done (by kernel_rfl) ?_ _
            obtain ⟨hS1, hS2⟩ := hHeld
            go_wp2_with fail
            go_roundw
            case rel => exact ⟨k + 1, m, A', c', by omega, by go_num, by show _ = _; rw [HY1.out, HM.out], rfl, HOK2, by rw [HY1.out]; exact HO.out.fut, Step.of⟩
            case measure => simp [intOf]; omega
      · obtain rfl : k = rs.length := by omega
        have hE : Hid (T = (yesTo ns s (rs.map RowA.vs) rs.length, 0)) := by show _ = _; rw [← HT.out, selR, CK.out, if_neg (by simp), List.length_map, if_pos HOK.out]
        go_wp2_with fail
        go_ret2
        exact ⟨A', c', by rw [hE.out]; show _ = Ending.returned (.tuple #[.slice A' (yesTo ns s (rs.map RowA.vs) rs.length).length c', _]); rw [HM.out]; rfl, by rw [hE.out]; show Own _ _ _ _ (.slice A' (yesTo ns s (rs.map RowA.vs) rs.length).length c') _; rw [HM.out]; exact HO.out.fut.more (base' := w.heap.size) (by omega), Step.of⟩
  · have hE : Hid (T = ([], checkE ns s)) := by show _ = _; rw [← HT.out, selR, if_pos hc]
    have hcb : (checkE ns s != 0) = true := by simpa using hc
    have PC := hide pc
    clear pc hc
    go_enter Tryd.func12, Tryd.ntmps12
    go_wp2_with (go_at_call 37; refine (PC.out _).mono ?_; rintro e w3 ⟨rfl, hs3⟩; rw [← HW.out] at hs3)
    go_ret2
    exact ⟨none, 0, by rw [hE.out]; rfl, by rw [hE.out]; exact Own.nil_ _ _ _ _, Step.of⟩
end Go.Proofs.YtafgfehjdbomfaaDoor
