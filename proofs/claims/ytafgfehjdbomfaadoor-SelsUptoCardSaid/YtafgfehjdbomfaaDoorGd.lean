/-
  sel.Clone: a row that shares nothing.
-/
import Derived.Test.YtafgfehjdbomfaaDoorRo
import Derived.Test.YtafgfehjdbomfaaDoorPn
namespace Go.Proofs.YtafgfehjdbomfaaDoor
open Go.RowKit


set_option maxRecDepth 100000 in
set_option maxHeartbeats 16000000 in
theorem pclone_any {w0 : World} (r : RowA) (w : World) (hr : RowIn w0 r) [f0 : Fut w0 w] :
    Calls Tryd.prog 39 #[.agg #[.slice r.A r.vs.length r.cap]] w fun e w' => ∃ (A' : Option Addr) (c' : Nat), e = .returned (.agg #[.slice A' r.vs.length c']) ∧ Own w' w.heap.size 57 4 (.slice A' r.vs.length c') ((r.vs.map clean).map Val.cells) ∧ Step w w' := by
  have z0 := f0.below.size
  have hcap := hr.hcap; have hcapm := hr.hcapm
  obtain ⟨W, hW⟩ : ∃ W, W = ((w.alloc (.cells #[.slice r.A r.vs.length r.cap] 54)).alloc (.cells #[.slice none 0 0] 54)).alloc (.cells #[.slice none 0 0] 54) := ⟨_, rfl⟩
  have SW : Step w W := by rw [hW]; exact Step.of
  have HRB : Hid (Blk W w.heap.size 54 [.slice r.A r.vs.length r.cap]) := by rw [hW]; exact ((Blk.new w [.slice r.A r.vs.length r.cap] 54).alloc _).alloc _
  have HC2 : Hid (Blk W (w.heap.size + 1) 54 [.slice none 0 0]) := by rw [hW]; exact (Blk.new_at (by simp) [.slice none 0 0] 54).alloc _
  have HC3 : Hid (Blk W (w.heap.size + 2) 54 [.slice none 0 0]) := by rw [hW]; exact Blk.new_at (by simp) [.slice none 0 0] 54
  have HW := hide hW
  have hzW := SW.size
  clear hW
  go_enter Tryd.func39, Tryd.ntmps39
  go_upto_region 2 with (fail)
  rw [← HW.out]
  have r0 := At.z1 HRB.out.at0; have lr := HRB.out.lt
  go_wp2_with fail
  clear r0 lr HRB HW
  obtain ⟨c2, hc2⟩ : ∃ c2, c2 = w.heap.size + 1 := ⟨_, rfl⟩
  obtain ⟨c3, hc3⟩ : ∃ c3, c3 = w.heap.size + 1 + 1 := ⟨_, rfl⟩
  have HC3 : Hid (Blk W c3 54 [.slice none 0 0]) := by rw [hc3]; exact HC3.out
  rw [← hc3]
  rw [← hc2] at HC2
  rw [← hc2]
  have NC3 : Newer w c3 := ⟨by omega⟩
  have NC2 : Newer w c2 := ⟨by omega⟩
  have hc23 : c2 < c3 := by omega
  have hc3W : c3 < W.heap.size := HC3.out.lt
  have hc2W : c2 < W.heap.size := HC2.out.lt
  clear hc2 hc3
  go_loopw [5, 9] (fun _ i wr => ∃ (k : Nat) (A' : Option Addr) (c' : Nat), k ≤ r.vs.length ∧ i = .int .i64 k ∧ Blk wr c3 54 [.slice A' k c'] ∧ Blk wr c2 54 [.slice none 0 0] ∧ Own wr W.heap.size 57 4 (.slice A' k c') (((r.vs.take k).map clean).map Val.cells) ∧ W.heap.size ≤ wr.heap.size ∧ Step w wr) (fun _ i _ => r.vs.length - (intOf i).toNat)
  case atStart => exact ⟨0, none, 0, Nat.zero_le _, rfl, HC3.out, HC2.out, Own.nil_ _ _ _ _, Nat.le_refl _, SW⟩
  case round =>
    obtain ⟨k, A', c', hk, rfl, hb3, hb2, hown, hWwo, hst⟩ := hrel
    clear HC3 HC2
    have HO := hide hown; have HC3 := hide hb3; have HC2 := hide hb2
    clear hown hb3 hb2
    obtain ⟨wo, hwo⟩ : ∃ x : World, x = wr := ⟨_, rfl⟩
    rw [← hwo] at HO HC3 HC2 hst hWwo
    rw [← hwo]
    clear hwo
    have hzo := hst.size
    by_cases hlt : k < r.vs.length
    · obtain ⟨b, off, hA, hb, hc⟩ := hr.at_.elem (w' := wo) inferInstance (k := k) (by simpa using hlt)
      rw [hA]
      obtain ⟨v, hv⟩ : ∃ v, r.vs[k]? = some v := ⟨_, List.getElem?_eq_getElem hlt⟩
      obtain ⟨v0, v1, v2, v3⟩ := At.l4 (hc k v.cells (by simp [hv]))
      have hlb : b < wo.heap.size := by omega
      have hkl : (k : Int) < (r.vs.length : Int) := by omega
      have hk0 : (0 : Int) ≤ (k : Int) := by omega
      have HTK : Hid (((r.vs.take (k + 1)).map clean).map Val.cells = ((r.vs.take k).map clean).map Val.cells ++ [[.int .i64 (kindV v), .int .i64 (clean v).i, .bool (clean v).b, .string (clean v).s]]) := by show _ = _; rw [List.take_add_one, hv]; simp [box_cells]
      have HLN : Hid ((((r.vs.take k).map clean).map Val.cells).length = k) := by show _ = _; simp; omega
      have PV := hide (plain_ag v)
      clear hc hv hA
      have k3 := At.z1 HC3.out.at0; have lc3 := HC3.out.lt
      go_upto_region 5 with (fail)
      clear v0 v1 v2 v3 hlb
      refine wp_region_held_drew (S := (fun w' => Step w w' ∧ True)) (by kernel_rfl) (by (try dsimp only); (exact ⟨Step.of, trivial⟩)) (fun hHeld => ?_)
      refine wpAnyH_take (i := 0) (oi := ⟨some 13, _, _, _, _, _⟩) (v := ?_) rfl (by kernel_rfl) (by kernel_rfl) (by kernel_rfl) (fun _ _ _ h => h) (Or.inl ⟨by rfl, ?_⟩) (by assumption) ?_
      rotate_left
      · ((intro w hSw); (try dsimp only at hSw); go_simp; (try with_reducible rfl))
      (try simp only [Act.put, List.setIfInBounds_toArray, List.set_cons_zero, List.set_cons_succ])
      refine wpAnyH_ready (rs := [1, 2]) (by kernel_rfl) (by simp) ?_
      refine AllReadyH.cons (o := ⟨some 14, _, _, _, _, _⟩) rfl (fun K hK => ?_) (AllReadyH.cons (o := ⟨some 15, _, _, _, _, _⟩) rfl (fun K hK => ?_) AllReadyH.nil)
      · go_simp
        refine hK.out _ _ (by (try dsimp only); (exact ⟨Step.of, trivial⟩)) (fun hHeld => ?_)
        clear hK K
        (try simp only [Act.put, List.setIfInBounds_toArray, List.set_cons_zero, List.set_cons_succ])
        refine wpAnyH_ready (rs := [2]) (by kernel_rfl) (by simp) ?_
        refine AllReadyH.cons (o := ⟨some 15, _, _, _, _, _⟩) rfl (fun K hK => ?_) AllReadyH.nil
        go_simp
        refine hK.out _ _ (by (try dsimp only); (exact ⟨Step.of, trivial⟩)) (fun hHeld => ?_)
        clear hK K
        (try simp only [Act.put, List.setIfInBounds_toArray, List.set_cons_zero, List.set_cons_succ])
        refine wpAnyH_ready (rs := [3]) (by kernel_rfl) (by simp) ?_
        refine AllReadyH.cons (o := ⟨some 16, _, _, _, _, _⟩) rfl (fun K hK => ?_) AllReadyH.nil
        obtain ⟨hS1, hS2⟩ := hHeld
        go_simp
        (go_at_call 80; (with_reducible refine (PV.out _).mono ?_); rintro e w6 ⟨rfl, hs6⟩; clear k3 lc3; have k3 := At.z1 (HC3.out.fut (w' := w6)).at0; have lc3 := (HC3.out.fut (w' := w6)).lt)
        refine hK.out _ _ (by (try dsimp only); (exact ⟨Step.of, trivial⟩)) (fun hHeld => ?_)
        clear hK K
        (try simp only [Act.put, List.setIfInBounds_toArray, List.set_cons_zero, List.set_cons_succ])
        refine wpAnyH_ready (rs := [4]) (by kernel_rfl) (by simp) ?_
        refine AllReadyH.cons (o := ⟨some 17, _, _, _, _, _⟩) rfl (fun K hK => ?_) AllReadyH.nil
        go_simp
        refine hK.out _ _ (by (try dsimp only); (exact ⟨Step.of, trivial⟩)) (fun hHeld => ?_)
        clear hK K
        (try simp only [Act.put, List.setIfInBounds_toArray, List.set_cons_zero, List.set_cons_succ])
        refine wpAnyH_ready (rs := [5]) (by kernel_rfl) (by simp) ?_
        refine AllReadyH.cons (o := ⟨some 18, _, _, _, _, _⟩) rfl (fun K hK => ?_) AllReadyH.nil
        (have HOW := hide ((HO.out.fut (w' := w6)).alloc (.cells #[.int .i64 (kindV v), .int .i64 (clean v).i, .bool (clean v).b, .string (clean v).s] 57)); have HNew := hide (SlAt.one w6 4 [.int .i64 (kindV v), .int .i64 (clean v).i, .bool (clean v).b, .string (clean v).s] 57); refine step_append_sl rfl (.tmp 14) (.tmp 17) 52 rfl eiV4 (base := W.heap.size) (xs := ((r.vs.take k).map clean).map Val.cells) rfl HOW.out (vals_fit _) (ys := [[.int .i64 (kindV v), .int .i64 (clean v).i, .bool (clean v).b, .string (clean v).s]]) rfl (by simp) HNew.out (box_fit v) (by rw [HLN.out]; show (k + 1) * 40 ≤ _; omega) (Nat.le_trans hWwo (fut wo (w6.alloc (.cells #[.int .i64 (kindV v), .int .i64 (clean v).i, .bool (clean v).b, .string (clean v).s] 57))).size) (N := k + 1) (by rw [HLN.out]; rfl) ?_; intro A7 c7 w7 hq1 hq2 hown7 hgr7 hbel7; have H7 := hide hown7; have hz7 := Nat.le_trans (Nat.le_trans hWwo (fut wo (w6.alloc (.cells #[.int .i64 (kindV v), .int .i64 (clean v).i, .bool (clean v).b, .string (clean v).s] 57))).size) hbel7.size; have hs7 : Step w w7 := ⟨(fut w (w6.alloc (.cells #[.int .i64 (kindV v), .int .i64 (clean v).i, .bool (clean v).b, .string (clean v).s] 57))).trans (hbel7.mono SW.size)⟩; have hb3 := ((HC3.out.fut (w' := w6)).alloc (.cells #[.int .i64 (kindV v), .int .i64 (clean v).i, .bool (clean v).b, .string (clean v).s] 57)).below hbel7 hc3W; have HD2 := hide (((HC2.out.fut (w' := w6)).alloc (.cells #[.int .i64 (kindV v), .int .i64 (clean v).i, .bool (clean v).b, .string (clean v).s] 57)).below hbel7 hc2W); clear k3 lc3; have k3 := At.z1 hb3.at0; have f3 := hb3.free; have lc3 := hb3.lt; have HD3 := hide hb3; clear hown7 hgr7 hbel7 hb3)
        refine hK.out _ _ (by (try dsimp only); (exact ⟨hs7, trivial⟩)) (fun hHeld => ?_)
        clear hK K
        (try simp only [Act.put, List.setIfInBounds_toArray, List.set_cons_zero, List.set_cons_succ])
        refine wpAnyH_take (i := 6) (oi := ⟨some 19, _, _, _, _, _⟩) (v := ?_) rfl (by kernel_rfl) (by kernel_rfl) (by kernel_rfl) (fun _ _ _ h => h) (Or.inl ⟨by rfl, ?_⟩) (by assumption) ?_
        rotate_left
        · ((intro w hSw); (try dsimp only at hSw); go_simp; (try with_reducible rfl))
        (try simp only [Act.put, List.setIfInBounds_toArray, List.set_cons_zero, List.set_cons_succ])
        refine wpAnyH_ready (rs := [7]) (by kernel_rfl) (by simp) ?_
        refine AllReadyH.cons (o := ⟨none, _, _, _, _, _⟩) rfl (fun K hK => ?_) AllReadyH.nil
        go_simp
        refine hK.out _ _ (by (try dsimp only); (exact ⟨⟨(fut w w7).setCell NC3.le _⟩, trivial⟩)) (fun hHeld => ?_)
        clear hK K
        (try simp only [Act.put, List.setIfInBounds_toArray, List.set_cons_zero, List.set_cons_succ])
        refine wpAnyH_done (by kernel_rfl) ?_ _
        go_wp2_with fail
        go_roundw
        case rel =>
          refine ⟨k + 1, A7, c7, by omega, by go_num, HD3.out.set_ 0 _, HD2.out.far (by simp; omega) _, ?_, by simp [World.setCell]; exact hz7, ⟨(fut w w7).setCell NC3.le _⟩⟩
          rw [HTK.out]
          exact H7.out.set_other HD3.out (by decide) 0 _
        case measure => simp [intOf]; omega
      · go_simp
        refine hK.out _ _ (by (try dsimp only); (exact ⟨Step.of, trivial⟩)) (fun hHeld => ?_)
        clear hK K
        (try simp only [Act.put, List.setIfInBounds_toArray, List.set_cons_zero, List.set_cons_succ])
        refine wpAnyH_ready (rs := [1, 3]) (by kernel_rfl) (by simp) ?_
        refine AllReadyH.cons (o := ⟨some 14, _, _, _, _, _⟩) rfl (fun K hK => ?_) (AllReadyH.cons (o := ⟨some 16, _, _, _, _, _⟩) rfl (fun K hK => ?_) AllReadyH.nil)
        · go_simp
          refine hK.out _ _ (by (try dsimp only); (exact ⟨Step.of, trivial⟩)) (fun hHeld => ?_)
          clear hK K
          (try simp only [Act.put, List.setIfInBounds_toArray, List.set_cons_zero, List.set_cons_succ])
          refine wpAnyH_ready (rs := [3]) (by kernel_rfl) (by simp) ?_
          refine AllReadyH.cons (o := ⟨some 16, _, _, _, _, _⟩) rfl (fun K hK => ?_) AllReadyH.nil
          obtain ⟨hS1, hS2⟩ := hHeld
          go_simp
          (go_at_call 80; (with_reducible refine (PV.out _).mono ?_); rintro e w6 ⟨rfl, hs6⟩; clear k3 lc3; have k3 := At.z1 (HC3.out.fut (w' := w6)).at0; have lc3 := (HC3.out.fut (w' := w6)).lt)
          refine hK.out _ _ (by (try dsimp only); (exact ⟨Step.of, trivial⟩)) (fun hHeld => ?_)
          clear hK K
          (try simp only [Act.put, List.setIfInBounds_toArray, List.set_cons_zero, List.set_cons_succ])
          refine wpAnyH_ready (rs := [4]) (by kernel_rfl) (by simp) ?_
          refine AllReadyH.cons (o := ⟨some 17, _, _, _, _, _⟩) rfl (fun K hK => ?_) AllReadyH.nil
          go_simp
          refine hK.out _ _ (by (try dsimp only); (exact ⟨Step.of, trivial⟩)) (fun hHeld => ?_)
          clear hK K
          (try simp only [Act.put, List.setIfInBounds_toArray, List.set_cons_zero, List.set_cons_succ])
          refine wpAnyH_ready (rs := [5]) (by kernel_rfl) (by simp) ?_
          refine AllReadyH.cons (o := ⟨some 18, _, _, _, _, _⟩) rfl (fun K hK => ?_) AllReadyH.nil
          (have HOW := hide ((HO.out.fut (w' := w6)).alloc (.cells #[.int .i64 (kindV v), .int .i64 (clean v).i, .bool (clean v).b, .string (clean v).s] 57)); have HNew := hide (SlAt.one w6 4 [.int .i64 (kindV v), .int .i64 (clean v).i, .bool (clean v).b, .string (clean v).s] 57); refine step_append_sl rfl (.tmp 14) (.tmp 17) 52 rfl eiV4 (base := W.heap.size) (xs := ((r.vs.take k).map clean).map Val.cells) rfl HOW.out (vals_fit _) (ys := [[.int .i64 (kindV v), .int .i64 (clean v).i, .bool (clean v).b, .string (clean v).s]]) rfl (by simp) HNew.out (box_fit v) (by rw [HLN.out]; show (k + 1) * 40 ≤ _; omega) (Nat.le_trans hWwo (fut wo (w6.alloc (.cells #[.int .i64 (kindV v), .int .i64 (clean v).i, .bool (clean v).b, .string (clean v).s] 57))).size) (N := k + 1) (by rw [HLN.out]; rfl) ?_; intro A7 c7 w7 hq1 hq2 hown7 hgr7 hbel7; have H7 := hide hown7; have hz7 := Nat.le_trans (Nat.le_trans hWwo (fut wo (w6.alloc (.cells #[.int .i64 (kindV v), .int .i64 (clean v).i, .bool (clean v).b, .string (clean v).s] 57))).size) hbel7.size; have hs7 : Step w w7 := ⟨(fut w (w6.alloc (.cells #[.int .i64 (kindV v), .int .i64 (clean v).i, .bool (clean v).b, .string (clean v).s] 57))).trans (hbel7.mono SW.size)⟩; have hb3 := ((HC3.out.fut (w' := w6)).alloc (.cells #[.int .i64 (kindV v), .int .i64 (clean v).i, .bool (clean v).b, .string (clean v).s] 57)).below hbel7 hc3W; have HD2 := hide (((HC2.out.fut (w' := w6)).alloc (.cells #[.int .i64 (kindV v), .int .i64 (clean v).i, .bool (clean v).b, .string (clean v).s] 57)).below hbel7 hc2W); clear k3 lc3; have k3 := At.z1 hb3.at0; have f3 := hb3.free; have lc3 := hb3.lt; have HD3 := hide hb3; clear hown7 hgr7 hbel7 hb3)
          refine hK.out _ _ (by (try dsimp only); (exact ⟨hs7, trivial⟩)) (fun hHeld => ?_)
          clear hK K
          (try simp only [Act.put, List.setIfInBounds_toArray, List.set_cons_zero, List.set_cons_succ])
          refine wpAnyH_take (i := 6) (oi := ⟨some 19, _, _, _, _, _⟩) (v := ?_) rfl (by kernel_rfl) (by kernel_rfl) (by kernel_rfl) (fun _ _ _ h => h) (Or.inl ⟨by rfl, ?_⟩) (by assumption) ?_
          rotate_left
          · ((intro w hSw); (try dsimp only at hSw); go_simp; (try with_reducible rfl))
          (try simp only [Act.put, List.setIfInBounds_toArray, List.set_cons_zero, List.set_cons_succ])
          refine wpAnyH_ready (rs := [7]) (by kernel_rfl) (by simp) ?_
          refine AllReadyH.cons (o := ⟨none, _, _, _, _, _⟩) rfl (fun K hK => ?_) AllReadyH.nil
          go_simp
          refine hK.out _ _ (by (try dsimp only); (exact ⟨⟨(fut w w7).setCell NC3.le _⟩, trivial⟩)) (fun hHeld => ?_)
          clear hK K
          (try simp only [Act.put, List.setIfInBounds_toArray, List.set_cons_zero, List.set_cons_succ])
          refine wpAnyH_done (by kernel_rfl) ?_ _
          go_wp2_with fail
          go_roundw
          case rel =>
            refine ⟨k + 1, A7, c7, by omega, by go_num, HD3.out.set_ 0 _, HD2.out.far (by simp; omega) _, ?_, by simp [World.setCell]; exact hz7, ⟨(fut w w7).setCell NC3.le _⟩⟩
            rw [HTK.out]
            exact H7.out.set_other HD3.out (by decide) 0 _
          case measure => simp [intOf]; omega
        · obtain ⟨hS1, hS2⟩ := hHeld
          go_simp
          (go_at_call 80; (with_reducible refine (PV.out _).mono ?_); rintro e w6 ⟨rfl, hs6⟩; clear k3 lc3; have k3 := At.z1 (HC3.out.fut (w' := w6)).at0; have lc3 := (HC3.out.fut (w' := w6)).lt)
          refine hK.out _ _ (by (try dsimp only); (exact ⟨Step.of, trivial⟩)) (fun hHeld => ?_)
          clear hK K
          (try simp only [Act.put, List.setIfInBounds_toArray, List.set_cons_zero, List.set_cons_succ])
          refine wpAnyH_ready (rs := [1, 4]) (by kernel_rfl) (by simp) ?_
          refine AllReadyH.cons (o := ⟨some 14, _, _, _, _, _⟩) rfl (fun K hK => ?_) (AllReadyH.cons (o := ⟨some 17, _, _, _, _, _⟩) rfl (fun K hK => ?_) AllReadyH.nil)
          · go_simp
            refine hK.out _ _ (by (try dsimp only); (exact ⟨Step.of, trivial⟩)) (fun hHeld => ?_)
            clear hK K
            (try simp only [Act.put, List.setIfInBounds_toArray, List.set_cons_zero, List.set_cons_succ])
            refine wpAnyH_ready (rs := [4]) (by kernel_rfl) (by simp) ?_
            refine AllReadyH.cons (o := ⟨some 17, _, _, _, _, _⟩) rfl (fun K hK => ?_) AllReadyH.nil
            go_simp
            refine hK.out _ _ (by (try dsimp only); (exact ⟨Step.of, trivial⟩)) (fun hHeld => ?_)
            clear hK K
            (try simp only [Act.put, List.setIfInBounds_toArray, List.set_cons_zero, List.set_cons_succ])
            refine wpAnyH_ready (rs := [5]) (by kernel_rfl) (by simp) ?_
            refine AllReadyH.cons (o := ⟨some 18, _, _, _, _, _⟩) rfl (fun K hK => ?_) AllReadyH.nil
            (have HOW := hide ((HO.out.fut (w' := w6)).alloc (.cells #[.int .i64 (kindV v), .int .i64 (clean v).i, .bool (clean v).b, .string (clean v).s] 57)); have HNew := hide (SlAt.one w6 4 [.int .i64 (kindV v), .int .i64 (clean v).i, .bool (clean v).b, .string (clean v).s] 57); refine step_append_sl rfl (.tmp 14) (.tmp 17) 52 rfl eiV4 (base := W.heap.size) (xs := ((r.vs.take k).map clean).map Val.cells) rfl HOW.out (vals_fit _) (ys := [[.int .i64 (kindV v), .int .i64 (clean v).i, .bool (clean v).b, .string (clean v).s]]) rfl (by simp) HNew.out (box_fit v) (by rw [HLN.out]; show (k + 1) * 40 ≤ _; omega) (Nat.le_trans hWwo (fut wo (w6.alloc (.cells #[.int .i64 (kindV v), .int .i64 (clean v).i, .bool (clean v).b, .string (clean v).s] 57))).size) (N := k + 1) (by rw [HLN.out]; rfl) ?_; intro A7 c7 w7 hq1 hq2 hown7 hgr7 hbel7; have H7 := hide hown7; have hz7 := Nat.le_trans (Nat.le_trans hWwo (fut wo (w6.alloc (.cells #[.int .i64 (kindV v), .int .i64 (clean v).i, .bool (clean v).b, .string (clean v).s] 57))).size) hbel7.size; have hs7 : Step w w7 := ⟨(fut w (w6.alloc (.cells #[.int .i64 (kindV v), .int .i64 (clean v).i, .bool (clean v).b, .string (clean v).s] 57))).trans (hbel7.mono SW.size)⟩; have hb3 := ((HC3.out.fut (w' := w6)).alloc (.cells #[.int .i64 (kindV v), .int .i64 (clean v).i, .bool (clean v).b, .string (clean v).s] 57)).below hbel7 hc3W; have HD2 := hide (((HC2.out.fut (w' := w6)).alloc (.cells #[.int .i64 (kindV v), .int .i64 (clean v).i, .bool (clean v).b, .string (clean v).s] 57)).below hbel7 hc2W); clear k3 lc3; have k3 := At.z1 hb3.at0; have f3 := hb3.free; have lc3 := hb3.lt; have HD3 := hide hb3; clear hown7 hgr7 hbel7 hb3)
            refine hK.out _ _ (by (try dsimp only); (exact ⟨hs7, trivial⟩)) (fun hHeld => ?_)
            clear hK K
            (try simp only [Act.put, List.setIfInBounds_toArray, List.set_cons_zero, List.set_cons_succ])
            refine wpAnyH_take (i := 6) (oi := ⟨some 19, _, _, _, _, _⟩) (v := ?_) rfl (by kernel_rfl) (by kernel_rfl) (by kernel_rfl) (fun _ _ _ h => h) (Or.inl ⟨by rfl, ?_⟩) (by assumption) ?_
            rotate_left
            · ((intro w hSw); (try dsimp only at hSw); go_simp; (try with_reducible rfl))
            (try simp only [Act.put, List.setIfInBounds_toArray, List.set_cons_zero, List.set_cons_succ])
            refine wpAnyH_ready (rs := [7]) (by kernel_rfl) (by simp) ?_
            refine AllReadyH.cons (o := ⟨none, _, _, _, _, _⟩) rfl (fun K hK => ?_) AllReadyH.nil
            go_simp
            refine hK.out _ _ (by (try dsimp only); (exact ⟨⟨(fut w w7).setCell NC3.le _⟩, trivial⟩)) (fun hHeld => ?_)
            clear hK K
            (try simp only [Act.put, List.setIfInBounds_toArray, List.set_cons_zero, List.set_cons_succ])
            refine wpAnyH_done (by kernel_rfl) ?_ _
            go_wp2_with fail
            go_roundw
            case rel =>
              refine ⟨k + 1, A7, c7, by omega, by go_num, HD3.out.set_ 0 _, HD2.out.far (by simp; omega) _, ?_, by simp [World.setCell]; exact hz7, ⟨(fut w w7).setCell NC3.le _⟩⟩
              rw [HTK.out]
              exact H7.out.set_other HD3.out (by decide) 0 _
            case measure => simp [intOf]; omega
          · go_simp
            refine hK.out _ _ (by (try dsimp only); (exact ⟨Step.of, trivial⟩)) (fun hHeld => ?_)
            clear hK K
            (try simp only [Act.put, List.setIfInBounds_toArray, List.set_cons_zero, List.set_cons_succ])
            refine wpAnyH_ready (rs := [1]) (by kernel_rfl) (by simp) ?_
            refine AllReadyH.cons (o := ⟨some 14, _, _, _, _, _⟩) rfl (fun K hK => ?_) AllReadyH.nil
            go_simp
            refine hK.out _ _ (by (try dsimp only); (exact ⟨Step.of, trivial⟩)) (fun hHeld => ?_)
            clear hK K
            (try simp only [Act.put, List.setIfInBounds_toArray, List.set_cons_zero, List.set_cons_succ])
            refine wpAnyH_ready (rs := [5]) (by kernel_rfl) (by simp) ?_
            refine AllReadyH.cons (o := ⟨some 18, _, _, _, _, _⟩) rfl (fun K hK => ?_) AllReadyH.nil
            (have HOW := hide ((HO.out.fut (w' := w6)).alloc (.cells #[.int .i64 (kindV v), .int .i64 (clean v).i, .bool (clean v).b, .string (clean v).s] 57)); have HNew := hide (SlAt.one w6 4 [.int .i64 (kindV v), .int .i64 (clean v).i, .bool (clean v).b, .string (clean v).s] 57); refine step_append_sl rfl (.tmp 14) (.tmp 17) 52 rfl eiV4 (base := W.heap.size) (xs := ((r.vs.take k).map clean).map Val.cells) rfl HOW.out (vals_fit _) (ys := [[.int .i64 (kindV v), .int .i64 (clean v).i, .bool (clean v).b, .string (clean v).s]]) rfl (by simp) HNew.out (box_fit v) (by rw [HLN.out]; show (k + 1) * 40 ≤ _; omega) (Nat.le_trans hWwo (fut wo (w6.alloc (.cells #[.int .i64 (kindV v), .int .i64 (clean v).i, .bool (clean v).b, .string (clean v).s] 57))).size) (N := k + 1) (by rw [HLN.out]; rfl) ?_; intro A7 c7 w7 hq1 hq2 hown7 hgr7 hbel7; have H7 := hide hown7; have hz7 := Nat.le_trans (Nat.le_trans hWwo (fut wo (w6.alloc (.cells #[.int .i64 (kindV v), .int .i64 (clean v).i, .bool (clean v).b, .string (clean v).s] 57))).size) hbel7.size; have hs7 : Step w w7 := ⟨(fut w (w6.alloc (.cells #[.int .i64 (kindV v), .int .i64 (clean v).i, .bool (clean v).b, .string (clean v).s] 57))).trans (hbel7.mono SW.size)⟩; have hb3 := ((HC3.out.fut (w' := w6)).alloc (.cells #[.int .i64 (kindV v), .int .i64 (clean v).i, .bool (clean v).b, .string (clean v).s] 57)).below hbel7 hc3W; have HD2 := hide (((HC2.out.fut (w' := w6)).alloc (.cells #[.int .i64 (kindV v), .int .i64 (clean v).i, .bool (clean v).b, .string (clean v).s] 57)).below hbel7 hc2W); clear k3 lc3; have k3 := At.z1 hb3.at0; have f3 := hb3.free; have lc3 := hb3.lt; have HD3 := hide hb3; clear hown7 hgr7 hbel7 hb3)
            refine hK.out _ _ (by (try dsimp only); (exact ⟨hs7, trivial⟩)) (fun hHeld => ?_)
            clear hK K
            (try simp only [Act.put, List.setIfInBounds_toArray, List.set_cons_zero, List.set_cons_succ])
            refine wpAnyH_take (i := 6) (oi := ⟨some 19, _, _, _, _, _⟩) (v := ?_) rfl (by kernel_rfl) (by kernel_rfl) (by kernel_rfl) (fun _ _ _ h => h) (Or.inl ⟨by rfl, ?_⟩) (by assumption) ?_
            rotate_left
            · ((intro w hSw); (try dsimp only at hSw); go_simp; (try with_reducible rfl))
            (try simp only [Act.put, List.setIfInBounds_toArray, List.set_cons_zero, List.set_cons_succ])
            refine wpAnyH_ready (rs := [7]) (by kernel_rfl) (by simp) ?_
            refine AllReadyH.cons (o := ⟨none, _, _, _, _, _⟩) rfl (fun K hK => ?_) AllReadyH.nil
            go_simp
            refine hK.out _ _ (by (try dsimp only); (exact ⟨⟨(fut w w7).setCell NC3.le _⟩, trivial⟩)) (fun hHeld => ?_)
            clear hK K
            (try simp only [Act.put, List.setIfInBounds_toArray, List.set_cons_zero, List.set_cons_succ])
            refine wpAnyH_done (by kernel_rfl) ?_ _
            go_wp2_with fail
            go_roundw
            case rel =>
              refine ⟨k + 1, A7, c7, by omega, by go_num, HD3.out.set_ 0 _, HD2.out.far (by simp; omega) _, ?_, by simp [World.setCell]; exact hz7, ⟨(fut w w7).setCell NC3.le _⟩⟩
              rw [HTK.out]
              exact H7.out.set_other HD3.out (by decide) 0 _
            case measure => simp [intOf]; omega
    · obtain rfl : k = r.vs.length := by omega
      have k3 := At.z1 HC3.out.at0; have lc3 := HC3.out.lt
      have k2 := At.z1 HC2.out.at0; have f2 := HC2.out.free; have lc2 := HC2.out.lt
      rw [List.take_length] at HO
      go_wp2_with fail
      have HR := hide (HC2.out.set_ 0 (.slice A' r.vs.length c'))
      have t0 := At.z1 HR.out.at0
      refine bodyPost_ret (v := .agg #[.slice A' r.vs.length c']) (by simp [results, Tryd.results39, go_sem, t0]) rfl ?_
      exact ⟨A', c', rfl, (HO.out.set_other HC2.out (by decide) 0 (.slice A' r.vs.length c')).more (base' := w.heap.size) (by omega), ⟨(fut w wo).setCell NC2.le _⟩⟩
end Go.Proofs.YtafgfehjdbomfaaDoor
