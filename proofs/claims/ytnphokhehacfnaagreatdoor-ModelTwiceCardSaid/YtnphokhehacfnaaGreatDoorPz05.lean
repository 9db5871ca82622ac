/-
  Texts put together: Gd, Ge, Gb, Rw, Pt.
-/
import Derived.Deep.RegionHeld3
import Derived.Deep.RegionLaw
import Derived.Deep.Cut
import Derived.Deep.CutBlock
import Derived.Test.YtnphokhehacfnaaGreatDoorPz00
import Derived.Test.YtnphokhehacfnaaGreatDoorPz02
import Derived.Test.YtnphokhehacfnaaGreatDoorPz03
import Derived.Test.YtnphokhehacfnaaGreatDoorPz04
namespace Go.Proofs.YtnphokhehacfnaaGreatDoor
open Go.RowKit


set_option maxRecDepth 100000 in
set_option maxHeartbeats 16000000 in
theorem pclone_any {w0 : World} (r : RowA) (w : World) (hr : RowIn w0 r) [f0 : Fut w0 w] :
    Calls Tryz.prog 115 #[.agg #[.slice r.A r.vs.length r.cap]] w fun e w' => ∃ (A' : Option Addr) (c' : Nat), e = .returned (.agg #[.slice A' r.vs.length c']) ∧ Own w' w.heap.size 36 4 (.slice A' r.vs.length c') ((r.vs.map clean).map Val.cells) ∧ Step w w' := by
  have z0 := f0.below.size
  have hcap := hr.hcap; have hcapm := hr.hcapm
  obtain ⟨W, hW⟩ : ∃ W, W = ((w.alloc (.cells #[.slice r.A r.vs.length r.cap] 67)).alloc (.cells #[.slice none 0 0] 67)).alloc (.cells #[.slice none 0 0] 67) := ⟨_, rfl⟩
  have SW : Step w W := by rw [hW]; exact Step.of
  have HRB : Hid (Blk W w.heap.size 67 [.slice r.A r.vs.length r.cap]) := by rw [hW]; exact ((Blk.new w [.slice r.A r.vs.length r.cap] 67).alloc _).alloc _
  have HC2 : Hid (Blk W (w.heap.size + 1) 67 [.slice none 0 0]) := by rw [hW]; exact (Blk.new_at (by simp) [.slice none 0 0] 67).alloc _
  have HC3 : Hid (Blk W (w.heap.size + 2) 67 [.slice none 0 0]) := by rw [hW]; exact Blk.new_at (by simp) [.slice none 0 0] 67
  have HW := hide hW
  have hzW := SW.size
  clear hW
  go_enter Tryz.func115, Tryz.ntmps115
  go_upto_region 2 with (fail)
  rw [← HW.out]
  have r0 := At.z1 HRB.out.at0; have lr := HRB.out.lt
  go_wp2_with fail
  clear r0 lr HRB HW
  obtain ⟨c2, hc2⟩ : ∃ c2, c2 = w.heap.size + 1 := ⟨_, rfl⟩
  obtain ⟨c3, hc3⟩ : ∃ c3, c3 = w.heap.size + 1 + 1 := ⟨_, rfl⟩
  have HC3 : Hid (Blk W c3 67 [.slice none 0 0]) := by rw [hc3]; exact HC3.out
  rw [← hc3]
  rw [← hc2] at HC2
  rw [← hc2]
  have NC3 : Newer w c3 := ⟨by omega⟩
  have NC2 : Newer w c2 := ⟨by omega⟩
  have hc23 : c2 < c3 := by omega
  have hc3W : c3 < W.heap.size := HC3.out.lt
  have hc2W : c2 < W.heap.size := HC2.out.lt
  clear hc2 hc3
  go_loopw [5, 9] (fun _ i wr => ∃ (k : Nat) (A' : Option Addr) (c' : Nat), k ≤ r.vs.length ∧ i = .int .i64 k ∧ Blk wr c3 67 [.slice A' k c'] ∧ Blk wr c2 67 [.slice none 0 0] ∧ Own wr W.heap.size 36 4 (.slice A' k c') (((r.vs.take k).map clean).map Val.cells) ∧ W.heap.size ≤ wr.heap.size ∧ Step w wr) (fun _ i _ => r.vs.length - (intOf i).toNat)
  case atStart => exact ⟨0, none, 0, Nat.zero_le _, rfl, HC3.out, HC2.out, Own.nil_ _ _ _ _, Nat.le_refl _, SW⟩
  case round =>
    obtain ⟨k, A', c', hk, rfl, hb3, hb2, hown, hWwo, hst⟩ := hrel
    clear HC3 HC2
    have HO := hide hown; have HC3 := hide hb3; have HC2 := hide hb2
    clear hown hb3 hb2
    obtain ⟨wo, hwo⟩ : ∃ x : World, x = wr := ⟨_, rfl⟩
    rw [← hwo] at HO HC3 HC2 hst hWwo
    rw [← hwo]
    clear hwo
    have hzo := hst.size
    by_cases hlt : k < r.vs.length
    · obtain ⟨b, off, hA, hb, hc⟩ := hr.at_.elem (w' := wo) inferInstance (k := k) (by simpa using hlt)
      rw [hA]
      obtain ⟨v, hv⟩ : ∃ v, r.vs[k]? = some v := ⟨_, List.getElem?_eq_getElem hlt⟩
      obtain ⟨v0, v1, v2, v3⟩ := At.l4 (hc k v.cells (by simp [hv]))
      have hlb : b < wo.heap.size := by omega
      have hkl : (k : Int) < (r.vs.length : Int) := by omega
      have hk0 : (0 : Int) ≤ (k : Int) := by omega
      have HTK : Hid (((r.vs.take (k + 1)).map clean).map Val.cells = ((r.vs.take k).map clean).map Val.cells ++ [[.int .i64 (kindV v), .int .i64 (clean v).i, .bool (clean v).b, .string (clean v).s]]) := by show _ = _; rw [List.take_add_one, hv]; simp [box_cells]
      have HLN : Hid ((((r.vs.take k).map clean).map Val.cells).length = k) := by show _ = _; simp; omega
      have PV := hide (plain_ag v)
      clear hc hv hA
      have k3 := At.z1 HC3.out.at0; have lc3 := HC3.out.lt
      go_upto_region 5 with (fail)
      clear v0 v1 v2 v3 hlb
      refine wp_region_held_drew (S := (fun w' => Step w w' ∧ True)) (by kernel_rfl) (by (try dsimp only); (exact ⟨Step.of, trivial⟩)) (fun hHeld => ?_)
      refine wT 0 13 (by assumption) ?_
      refine wpAnyH_ready (rs := [1, 2]) (by kernel_rfl) (by simp) ?_
      refine AllReadyH.cons (o := ⟨some 14, _, _, _, _, _⟩) rfl (fun K hK => ?_) (AllReadyH.cons (o := ⟨some 15, _, _, _, _, _⟩) rfl (fun K hK => ?_) AllReadyH.nil)
      · go_simp
        refine hK.out _ _ (by (try dsimp only); (exact ⟨Step.of, trivial⟩)) (fun hHeld => ?_)
        clear hK K
        (try simp only [Act.put, List.setIfInBounds_toArray, List.set_cons_zero, List.set_cons_succ])
        refine wpAnyH_ready (rs := [2]) (by kernel_rfl) (by simp) ?_
        refine AllReadyH.cons (o := ⟨some 15, _, _, _, _, _⟩) rfl (fun K hK => ?_) AllReadyH.nil
        go_simp
        refine hK.out _ _ (by (try dsimp only); (exact ⟨Step.of, trivial⟩)) (fun hHeld => ?_)
        clear hK K
        (try simp only [Act.put, List.setIfInBounds_toArray, List.set_cons_zero, List.set_cons_succ])
        refine wpAnyH_ready (rs := [3]) (by kernel_rfl) (by simp) ?_
        refine AllReadyH.cons (o := ⟨some 16, _, _, _, _, _⟩) rfl (fun K hK => ?_) AllReadyH.nil
        obtain ⟨hS1, hS2⟩ := hHeld
        go_simp
        (go_at_call 109; (with_reducible refine (PV.out _).mono ?_); rintro e w6 ⟨rfl, hs6⟩; clear k3 lc3; have k3 := At.z1 (HC3.out.fut (w' := w6)).at0; have lc3 := (HC3.out.fut (w' := w6)).lt)
        refine hK.out _ _ (by (try dsimp only); (exact ⟨Step.of, trivial⟩)) (fun hHeld => ?_)
        clear hK K
        (try simp only [Act.put, List.setIfInBounds_toArray, List.set_cons_zero, List.set_cons_succ])
        refine wpAnyH_ready (rs := [4]) (by kernel_rfl) (by simp) ?_
        refine AllReadyH.cons (o := ⟨some 17, _, _, _, _, _⟩) rfl (fun K hK => ?_) AllReadyH.nil
        go_simp
        refine hK.out _ _ (by (try dsimp only); (exact ⟨Step.of, trivial⟩)) (fun hHeld => ?_)
        clear hK K
        (try simp only [Act.put, List.setIfInBounds_toArray, List.set_cons_zero, List.set_cons_succ])
        refine wpAnyH_ready (rs := [5]) (by kernel_rfl) (by simp) ?_
        refine AllReadyH.cons (o := ⟨some 18, _, _, _, _, _⟩) rfl (fun K hK => ?_) AllReadyH.nil
        (have HOW := hide ((HO.out.fut (w' := w6)).alloc (.cells #[.int .i64 (kindV v), .int .i64 (clean v).i, .bool (clean v).b, .string (clean v).s] 36)); have HNew := hide (SlAt.one w6 4 [.int .i64 (kindV v), .int .i64 (clean v).i, .bool (clean v).b, .string (clean v).s] 36); refine step_append_sl rfl (.tmp 14) (.tmp 17) 65 rfl eiV4 (base := W.heap.size) (xs := ((r.vs.take k).map clean).map Val.cells) rfl HOW.out (vals_fit _) (ys := [[.int .i64 (kindV v), .int .i64 (clean v).i, .bool (clean v).b, .string (clean v).s]]) rfl (by simp) HNew.out (box_fit v) (by rw [HLN.out]; show (k + 1) * 40 ≤ _; omega) (Nat.le_trans hWwo (fut wo (w6.alloc (.cells #[.int .i64 (kindV v), .int .i64 (clean v).i, .bool (clean v).b, .string (clean v).s] 36))).size) (N := k + 1) (by rw [HLN.out]; rfl) ?_; intro A7 c7 w7 hq1 hq2 hown7 hgr7 hbel7; have H7 := hide hown7; have hz7 := Nat.le_trans (Nat.le_trans hWwo (fut wo (w6.alloc (.cells #[.int .i64 (kindV v), .int .i64 (clean v).i, .bool (clean v).b, .string (clean v).s] 36))).size) hbel7.size; have hs7 : Step w w7 := ⟨(fut w (w6.alloc (.cells #[.int .i64 (kindV v), .int .i64 (clean v).i, .bool (clean v).b, .string (clean v).s] 36))).trans (hbel7.mono SW.size)⟩; have hb3 := ((HC3.out.fut (w' := w6)).alloc (.cells #[.int .i64 (kindV v), .int .i64 (clean v).i, .bool (clean v).b, .string (clean v).s] 36)).below hbel7 hc3W; have HD2 := hide (((HC2.out.fut (w' := w6)).alloc (.cells #[.int .i64 (kindV v), .int .i64 (clean v).i, .bool (clean v).b, .string (clean v).s] 36)).below hbel7 hc2W); clear k3 lc3; have k3 := At.z1 hb3.at0; have f3 := hb3.free; have lc3 := hb3.lt; have HD3 := hide hb3; clear hown7 hgr7 hbel7 hb3)
        refine hK.out _ _ (by (try dsimp only); (exact ⟨hs7, trivial⟩)) (fun hHeld => ?_)
        clear hK K
        (try simp only [Act.put, List.setIfInBounds_toArray, List.set_cons_zero, List.set_cons_succ])
        refine wT 6 19 (by assumption) ?_
        refine wpAnyH_ready (rs := [7]) (by kernel_rfl) (by simp) ?_
        refine AllReadyH.cons (o := ⟨none, _, _, _, _, _⟩) rfl (fun K hK => ?_) AllReadyH.nil
        go_simp
        refine hK.out _ _ (by (try dsimp only); (exact ⟨⟨(fut w w7).setCell NC3.le _⟩, trivial⟩)) (fun hHeld => ?_)
        clear hK K
        (try simp only [Act.put, List.setIfInBounds_toArray, List.set_cons_zero, List.set_cons_succ])
        refine wpAnyH_done (by kernel_rfl) ?_ _
        go_wp2_with fail
        go_roundw
        case rel =>
          refine ⟨k + 1, A7, c7, by omega, by go_num, HD3.out.set_ 0 _, HD2.out.far (by simp; omega) _, ?_, by simp [World.setCell]; exact hz7, ⟨(fut w w7).setCell NC3.le _⟩⟩
          rw [HTK.out]
          exact H7.out.set_other HD3.out (by decide) 0 _
        case measure => simp [intOf]; omega
      · go_simp
        refine hK.out _ _ (by (try dsimp only); (exact ⟨Step.of, trivial⟩)) (fun hHeld => ?_)
        clear hK K
        (try simp only [Act.put, List.setIfInBounds_toArray, List.set_cons_zero, List.set_cons_succ])
        refine wpAnyH_ready (rs := [1, 3]) (by kernel_rfl) (by simp) ?_
        refine AllReadyH.cons (o := ⟨some 14, _, _, _, _, _⟩) rfl (fun K hK => ?_) (AllReadyH.cons (o := ⟨some 16, _, _, _, _, _⟩) rfl (fun K hK => ?_) AllReadyH.nil)
        · go_simp
          refine hK.out _ _ (by (try dsimp only); (exact ⟨Step.of, trivial⟩)) (fun hHeld => ?_)
          clear hK K
          (try simp only [Act.put, List.setIfInBounds_toArray, List.set_cons_zero, List.set_cons_succ])
          refine wpAnyH_ready (rs := [3]) (by kernel_rfl) (by simp) ?_
          refine AllReadyH.cons (o := ⟨some 16, _, _, _, _, _⟩) rfl (fun K hK => ?_) AllReadyH.nil
          obtain ⟨hS1, hS2⟩ := hHeld
          go_simp
          (go_at_call 109; (with_reducible refine (PV.out _).mono ?_); rintro e w6 ⟨rfl, hs6⟩; clear k3 lc3; have k3 := At.z1 (HC3.out.fut (w' := w6)).at0; have lc3 := (HC3.out.fut (w' := w6)).lt)
          refine hK.out _ _ (by (try dsimp only); (exact ⟨Step.of, trivial⟩)) (fun hHeld => ?_)
          clear hK K
          (try simp only [Act.put, List.setIfInBounds_toArray, List.set_cons_zero, List.set_cons_succ])
          refine wpAnyH_ready (rs := [4]) (by kernel_rfl) (by simp) ?_
          refine AllReadyH.cons (o := ⟨some 17, _, _, _, _, _⟩) rfl (fun K hK => ?_) AllReadyH.nil
          go_simp
          refine hK.out _ _ (by (try dsimp only); (exact ⟨Step.of, trivial⟩)) (fun hHeld => ?_)
          clear hK K
          (try simp only [Act.put, List.setIfInBounds_toArray, List.set_cons_zero, List.set_cons_succ])
          refine wpAnyH_ready (rs := [5]) (by kernel_rfl) (by simp) ?_
          refine AllReadyH.cons (o := ⟨some 18, _, _, _, _, _⟩) rfl (fun K hK => ?_) AllReadyH.nil
          (have HOW := hide ((HO.out.fut (w' := w6)).alloc (.cells #[.int .i64 (kindV v), .int .i64 (clean v).i, .bool (clean v).b, .string (clean v).s] 36)); have HNew := hide (SlAt.one w6 4 [.int .i64 (kindV v), .int .i64 (clean v).i, .bool (clean v).b, .string (clean v).s] 36); refine step_append_sl rfl (.tmp 14) (.tmp 17) 65 rfl eiV4 (base := W.heap.size) (xs := ((r.vs.take k).map clean).map Val.cells) rfl HOW.out (vals_fit _) (ys := [[.int .i64 (kindV v), .int .i64 (clean v).i, .bool (clean v).b, .string (clean v).s]]) rfl (by simp) HNew.out (box_fit v) (by rw [HLN.out]; show (k + 1) * 40 ≤ _; omega) (Nat.le_trans hWwo (fut wo (w6.alloc (.cells #[.int .i64 (kindV v), .int .i64 (clean v).i, .bool (clean v).b, .string (clean v).s] 36))).size) (N := k + 1) (by rw [HLN.out]; rfl) ?_; intro A7 c7 w7 hq1 hq2 hown7 hgr7 hbel7; have H7 := hide hown7; have hz7 := Nat.le_trans (Nat.le_trans hWwo (fut wo (w6.alloc (.cells #[.int .i64 (kindV v), .int .i64 (clean v).i, .bool (clean v).b, .string (clean v).s] 36))).size) hbel7.size; have hs7 : Step w w7 := ⟨(fut w (w6.alloc (.cells #[.int .i64 (kindV v), .int .i64 (clean v).i, .bool (clean v).b, .string (clean v).s] 36))).trans (hbel7.mono SW.size)⟩; have hb3 := ((HC3.out.fut (w' := w6)).alloc (.cells #[.int .i64 (kindV v), .int .i64 (clean v).i, .bool (clean v).b, .string (clean v).s] 36)).below hbel7 hc3W; have HD2 := hide (((HC2.out.fut (w' := w6)).alloc (.cells #[.int .i64 (kindV v), .int .i64 (clean v).i, .bool (clean v).b, .string (clean v).s] 36)).below hbel7 hc2W); clear k3 lc3; have k3 := At.z1 hb3.at0; have f3 := hb3.free; have lc3 := hb3.lt; have HD3 := hide hb3; clear hown7 hgr7 hbel7 hb3)
          refine hK.out _ _ (by (try dsimp only); (exact ⟨hs7, trivial⟩)) (fun hHeld => ?_)
          clear hK K
          (try simp only [Act.put, List.setIfInBounds_toArray, List.set_cons_zero, List.set_cons_succ])
          refine wT 6 19 (by assumption) ?_
          refine wpAnyH_ready (rs := [7]) (by kernel_rfl) (by simp) ?_
          refine AllReadyH.cons (o := ⟨none, _, _, _, _, _⟩) rfl (fun K hK => ?_) AllReadyH.nil
          go_simp
          refine hK.out _ _ (by (try dsimp only); (exact ⟨⟨(fut w w7).setCell NC3.le _⟩, trivial⟩)) (fun hHeld => ?_)
          clear hK K
          (try simp only [Act.put, List.setIfInBounds_toArray, List.set_cons_zero, List.set_cons_succ])
          refine wpAnyH_done (by kernel_rfl) ?_ _
          go_wp2_with fail
          go_roundw
          case rel =>
            refine ⟨k + 1, A7, c7, by omega, by go_num, HD3.out.set_ 0 _, HD2.out.far (by simp; omega) _, ?_, by simp [World.setCell]; exact hz7, ⟨(fut w w7).setCell NC3.le _⟩⟩
            rw [HTK.out]
            exact H7.out.set_other HD3.out (by decide) 0 _
          case measure => simp [intOf]; omega
        · obtain ⟨hS1, hS2⟩ := hHeld
          go_simp
          (go_at_call 109; (with_reducible refine (PV.out _).mono ?_); rintro e w6 ⟨rfl, hs6⟩; clear k3 lc3; have k3 := At.z1 (HC3.out.fut (w' := w6)).at0; have lc3 := (HC3.out.fut (w' := w6)).lt)
          refine hK.out _ _ (by (try dsimp only); (exact ⟨Step.of, trivial⟩)) (fun hHeld => ?_)
          clear hK K
          (try simp only [Act.put, List.setIfInBounds_toArray, List.set_cons_zero, List.set_cons_succ])
          refine wpAnyH_ready (rs := [1, 4]) (by kernel_rfl) (by simp) ?_
          refine AllReadyH.cons (o := ⟨some 14, _, _, _, _, _⟩) rfl (fun K hK => ?_) (AllReadyH.cons (o := ⟨some 17, _, _, _, _, _⟩) rfl (fun K hK => ?_) AllReadyH.nil)
          · go_simp
            refine hK.out _ _ (by (try dsimp only); (exact ⟨Step.of, trivial⟩)) (fun hHeld => ?_)
            clear hK K
            (try simp only [Act.put, List.setIfInBounds_toArray, List.set_cons_zero, List.set_cons_succ])
            refine wpAnyH_ready (rs := [4]) (by kernel_rfl) (by simp) ?_
            refine AllReadyH.cons (o := ⟨some 17, _, _, _, _, _⟩) rfl (fun K hK => ?_) AllReadyH.nil
            go_simp
            refine hK.out _ _ (by (try dsimp only); (exact ⟨Step.of, trivial⟩)) (fun hHeld => ?_)
            clear hK K
            (try simp only [Act.put, List.setIfInBounds_toArray, List.set_cons_zero, List.set_cons_succ])
            refine wpAnyH_ready (rs := [5]) (by kernel_rfl) (by simp) ?_
            refine AllReadyH.cons (o := ⟨some 18, _, _, _, _, _⟩) rfl (fun K hK => ?_) AllReadyH.nil
            (have HOW := hide ((HO.out.fut (w' := w6)).alloc (.cells #[.int .i64 (kindV v), .int .i64 (clean v).i, .bool (clean v).b, .string (clean v).s] 36)); have HNew := hide (SlAt.one w6 4 [.int .i64 (kindV v), .int .i64 (clean v).i, .bool (clean v).b, .string (clean v).s] 36); refine step_append_sl rfl (.tmp 14) (.tmp 17) 65 rfl eiV4 (base := W.heap.size) (xs := ((r.vs.take k).map clean).map Val.cells) rfl HOW.out (vals_fit _) (ys := [[.int .i64 (kindV v), .int .i64 (clean v).i, .bool (clean v).b, .string (clean v).s]]) rfl (by simp) HNew.out (box_fit v) (by rw [HLN.out]; show (k + 1) * 40 ≤ _; omega) (Nat.le_trans hWwo (fut wo (w6.alloc (.cells #[.int .i64 (kindV v), .int .i64 (clean v).i, .bool (clean v).b, .string (clean v).s] 36))).size) (N := k + 1) (by rw [HLN.out]; rfl) ?_; intro A7 c7 w7 hq1 hq2 hown7 hgr7 hbel7; have H7 := hide hown7; have hz7 := Nat.le_trans (Nat.le_trans hWwo (fut wo (w6.alloc (.cells #[.int .i64 (kindV v), .int .i64 (clean v).i, .bool (clean v).b, .string (clean v).s] 36))).size) hbel7.size; have hs7 : Step w w7 := ⟨(fut w (w6.alloc (.cells #[.int .i64 (kindV v), .int .i64 (clean v).i, .bool (clean v).b, .string (clean v).s] 36))).trans (hbel7.mono SW.size)⟩; have hb3 := ((HC3.out.fut (w' := w6)).alloc (.cells #[.int .i64 (kindV v), .int .i64 (clean v).i, .bool (clean v).b, .string (clean v).s] 36)).below hbel7 hc3W; have HD2 := hide (((HC2.out.fut (w' := w6)).alloc (.cells #[.int .i64 (kindV v), .int .i64 (clean v).i, .bool (clean v).b, .string (clean v).s] 36)).below hbel7 hc2W); clear k3 lc3; have k3 := At.z1 hb3.at0; have f3 := hb3.free; have lc3 := hb3.lt; have HD3 := hide hb3; clear hown7 hgr7 hbel7 hb3)
            refine hK.out _ _ (by (try dsimp only); (exact ⟨hs7, trivial⟩)) (fun hHeld => ?_)
            clear hK K
            (try simp only [Act.put, List.setIfInBounds_toArray, List.set_cons_zero, List.set_cons_succ])
            refine wT 6 19 (by assumption) ?_
            refine wpAnyH_ready (rs := [7]) (by kernel_rfl) (by simp) ?_
            refine AllReadyH.cons (o := ⟨none, _, _, _, _, _⟩) rfl (fun K hK => ?_) AllReadyH.nil
            go_simp
            refine hK.out _ _ (by (try dsimp only); (exact ⟨⟨(fut w w7).setCell NC3.le _⟩, trivial⟩)) (fun hHeld => ?_)
            clear hK K
            (try simp only [Act.put, List.setIfInBounds_toArray, List.set_cons_zero, List.set_cons_succ])
            refine wpAnyH_done (by kernel_rfl) ?_ _
            go_wp2_with fail
            go_roundw
            case rel =>
              refine ⟨k + 1, A7, c7, by omega, by go_num, HD3.out.set_ 0 _, HD2.out.far (by simp; omega) _, ?_, by simp [World.setCell]; exact hz7, ⟨(fut w w7).setCell NC3.le _⟩⟩
              rw [HTK.out]
              exact H7.out.set_other HD3.out (by decide) 0 _
            case measure => simp [intOf]; omega
          · go_simp
            refine hK.out _ _ (by (try dsimp only); (exact ⟨Step.of, trivial⟩)) (fun hHeld => ?_)
            clear hK K
            (try simp only [Act.put, List.setIfInBounds_toArray, List.set_cons_zero, List.set_cons_succ])
            refine wpAnyH_ready (rs := [1]) (by kernel_rfl) (by simp) ?_
            refine AllReadyH.cons (o := ⟨some 14, _, _, _, _, _⟩) rfl (fun K hK => ?_) AllReadyH.nil
            go_simp
            refine hK.out _ _ (by (try dsimp only); (exact ⟨Step.of, trivial⟩)) (fun hHeld => ?_)
            clear hK K
            (try simp only [Act.put, List.setIfInBounds_toArray, List.set_cons_zero, List.set_cons_succ])
            refine wpAnyH_ready (rs := [5]) (by kernel_rfl) (by simp) ?_
            refine AllReadyH.cons (o := ⟨some 18, _, _, _, _, _⟩) rfl (fun K hK => ?_) AllReadyH.nil
            (have HOW := hide ((HO.out.fut (w' := w6)).alloc (.cells #[.int .i64 (kindV v), .int .i64 (clean v).i, .bool (clean v).b, .string (clean v).s] 36)); have HNew := hide (SlAt.one w6 4 [.int .i64 (kindV v), .int .i64 (clean v).i, .bool (clean v).b, .string (clean v).s] 36); refine step_append_sl rfl (.tmp 14) (.tmp 17) 65 rfl eiV4 (base := W.heap.size) (xs := ((r.vs.take k).map clean).map Val.cells) rfl HOW.out (vals_fit _) (ys := [[.int .i64 (kindV v), .int .i64 (clean v).i, .bool (clean v).b, .string (clean v).s]]) rfl (by simp) HNew.out (box_fit v) (by rw [HLN.out]; show (k + 1) * 40 ≤ _; omega) (Nat.le_trans hWwo (fut wo (w6.alloc (.cells #[.int .i64 (kindV v), .int .i64 (clean v).i, .bool (clean v).b, .string (clean v).s] 36))).size) (N := k + 1) (by rw [HLN.out]; rfl) ?_; intro A7 c7 w7 hq1 hq2 hown7 hgr7 hbel7; have H7 := hide hown7; have hz7 := Nat.le_trans (Nat.le_trans hWwo (fut wo (w6.alloc (.cells #[.int .i64 (kindV v), .int .i64 (clean v).i, .bool (clean v).b, .string (clean v).s] 36))).size) hbel7.size; have hs7 : Step w w7 := ⟨(fut w (w6.alloc (.cells #[.int .i64 (kindV v), .int .i64 (clean v).i, .bool (clean v).b, .string (clean v).s] 36))).trans (hbel7.mono SW.size)⟩; have hb3 := ((HC3.out.fut (w' := w6)).alloc (.cells #[.int .i64 (kindV v), .int .i64 (clean v).i, .bool (clean v).b, .string (clean v).s] 36)).below hbel7 hc3W; have HD2 := hide (((HC2.out.fut (w' := w6)).alloc (.cells #[.int .i64 (kindV v), .int .i64 (clean v).i, .bool (clean v).b, .string (clean v).s] 36)).below hbel7 hc2W); clear k3 lc3; have k3 := At.z1 hb3.at0; have f3 := hb3.free; have lc3 := hb3.lt; have HD3 := hide hb3; clear hown7 hgr7 hbel7 hb3)
            refine hK.out _ _ (by (try dsimp only); (exact ⟨hs7, trivial⟩)) (fun hHeld => ?_)
            clear hK K
            (try simp only [Act.put, List.setIfInBounds_toArray, List.set_cons_zero, List.set_cons_succ])
            refine wT 6 19 (by assumption) ?_
            refine wpAnyH_ready (rs := [7]) (by kernel_rfl) (by simp) ?_
            refine AllReadyH.cons (o := ⟨none, _, _, _, _, _⟩) rfl (fun K hK => ?_) AllReadyH.nil
            go_simp
            refine hK.out _ _ (by (try dsimp only); (exact ⟨⟨(fut w w7).setCell NC3.le _⟩, trivial⟩)) (fun hHeld => ?_)
            clear hK K
            (try simp only [Act.put, List.setIfInBounds_toArray, List.set_cons_zero, List.set_cons_succ])
            refine wpAnyH_done (by kernel_rfl) ?_ _
            go_wp2_with fail
            go_roundw
            case rel =>
              refine ⟨k + 1, A7, c7, by omega, by go_num, HD3.out.set_ 0 _, HD2.out.far (by simp; omega) _, ?_, by simp [World.setCell]; exact hz7, ⟨(fut w w7).setCell NC3.le _⟩⟩
              rw [HTK.out]
              exact H7.out.set_other HD3.out (by decide) 0 _
            case measure => simp [intOf]; omega
    · obtain rfl : k = r.vs.length := by omega
      have k3 := At.z1 HC3.out.at0; have lc3 := HC3.out.lt
      have k2 := At.z1 HC2.out.at0; have f2 := HC2.out.free; have lc2 := HC2.out.lt
      rw [List.take_length] at HO
      go_wp2_with fail
      have HR := hide (HC2.out.set_ 0 (.slice A' r.vs.length c'))
      have t0 := At.z1 HR.out.at0
      refine bodyPost_ret (v := .agg #[.slice A' r.vs.length c']) (by simp [results, Tryz.results115, go_sem, t0]) rfl ?_
      exact ⟨A', c', rfl, (HO.out.set_other HC2.out (by decide) 0 (.slice A' r.vs.length c')).more (base' := w.heap.size) (by omega), ⟨(fut w wo).setCell NC2.le _⟩⟩
end Go.Proofs.YtnphokhehacfnaaGreatDoor

namespace Go.Proofs.YtnphokhehacfnaaGreatDoor
open Go.RowKit


def takeOk (n : Nat) (at_ : List Int) (j : Nat) : Bool := (at_.take j).all fun k => decide (0 ≤ k) && decide (k < (n : Int))
def takeTo (vss : List (List Val)) (at_ : List Int) (j : Nat) : List (List Val) := (at_.take j).map fun k => (vss.getD k.toNat []).map clean
def takeR (vss : List (List Val)) (at_ : List Int) : List (List Val) × Int := if takeOk vss.length at_ at_.length = true then (takeTo vss at_ at_.length, 0) else ([], 1600)
theorem takeOk_bad {n j : Nat} {at_ : List Int} {x : Int} (hx : at_[j]? = some x) (hb : x < 0 ∨ (n : Int) ≤ x) : takeOk n at_ at_.length = false := by
  unfold takeOk
  rw [List.take_length]
  cases h : at_.all (fun k => decide (0 ≤ k) && decide (k < (n : Int))) with
  | false => rfl
  | true =>
    have := List.all_eq_true.1 h x (List.mem_of_getElem? hx)
    simp at this
    omega
theorem takeOk_succ {n j : Nat} {at_ : List Int} {x : Nat} (h : takeOk n at_ j = true) (hx : at_[j]? = some (x : Int)) (hb : x < n) : takeOk n at_ (j + 1) = true := by
  unfold takeOk at h ⊢
  rw [List.take_add_one, hx, List.all_append, h]
  simp
  omega
theorem takeTo_succ {vss : List (List Val)} {j x : Nat} {at_ : List Int} {vs : List Val} (hx : at_[j]? = some (x : Int)) (hv : vss[x]? = some vs) : takeTo vss at_ (j + 1) = takeTo vss at_ j ++ [vs.map clean] := by
  unfold takeTo
  rw [List.take_add_one, hx]
  simp [List.getD_eq_getElem?_getD, hv]

set_option maxRecDepth 100000 in
set_option maxHeartbeats 16000000 in
theorem ptake_any {w0 w1 : World} (rs : List RowA) (Ar : Option Addr) (cr : Nat) (at_ : List Int) (Aa : Option Addr) (ca : Nat) (w : World) (hr : RowsIn w0 rs Ar cr) (ha : SlAt w1 w1.heap.size 1 Aa (intCells at_)) [f0 : Fut w0 w] [f1 : Fut w1 w] (hal : at_.length ≤ 5864062014800) :
    Calls Tryz.prog 126 #[.slice Ar rs.length cr, .slice Aa at_.length ca] w fun e w' => ∃ (A' : Option Addr) (c' : Nat) (os : List RowA), os.map RowA.vs = (takeR (rs.map RowA.vs) at_).1 ∧ e = .returned (.tuple #[.slice A' os.length c', .int .i64 (takeR (rs.map RowA.vs) at_).2]) ∧ OwnR w' w.heap.size A' os.length c' os ∧ Step w w' := by
  have z0 := f0.below.size; have z1 := f1.below.size
  have hrc := hr.hcap; have hrm := hr.hcapm
  obtain ⟨T, hT⟩ : ∃ T, takeR (rs.map RowA.vs) at_ = T := ⟨_, rfl⟩
  have HT := hide hT
  rw [hT]
  clear hT
  go_enter Tryz.func126, Tryz.ntmps126
  go_wp2_with fail
  go_loopw [6, 8, 11] (fun out _ i wr => ∃ (j : Nat) (A' : Option Addr) (c' : Nat) (os : List RowA), j ≤ at_.length ∧ i = .int .i64 j ∧ out = .slice A' j c' ∧ Hid (takeOk rs.length at_ j = true) ∧ Hid (os.map RowA.vs = takeTo (rs.map RowA.vs) at_ j) ∧ Hid (os.length = j) ∧ OwnR wr w.heap.size A' j c' os ∧ Step w wr) (fun _ _ i _ => at_.length - (intOf i).toNat)
  case atStart => exact ⟨0, none, 0, [], Nat.zero_le _, rfl, rfl, rfl, rfl, rfl, ⟨Own.nil_ _ _ _ _, fun r h => by simp at h⟩, Step.of⟩
  case round =>
    obtain ⟨j, A', c', os, hj, rfl, rfl, HOK, HOS, HOL, hown, hst⟩ := hrel
    have HO := hide hown; clear hown
    obtain ⟨wo, rfl⟩ : ∃ x : World, x = wr := ⟨_, rfl⟩
    have hzo := hst.size
    by_cases hlt : j < at_.length
    · obtain ⟨b, off, rfl, hb, hc⟩ := ha.elem (w' := wo) inferInstance (k := j) (by rw [intCells_len]; exact hlt)
      obtain ⟨x, hx⟩ : ∃ x, at_[j]? = some x := ⟨_, List.getElem?_eq_getElem hlt⟩
      have x0 := At.l1 (hc j [.int .i64 x] (by simp [intCells, hx]))
      simp only [Nat.mul_one] at x0
      have hlb : b < wo.heap.size := by omega
      have hjl : (j : Int) < (at_.length : Int) := by omega
      have HX := hide hx
      clear hc hx
      by_cases hx1 : x < 0
      · have HBAD := hide (takeOk_bad (n := rs.length) HX.out (.inl hx1))
        have hE : Hid (T = ([], 1600)) := by show _ = _; rw [← HT.out, takeR, List.length_map, HBAD.out]; rfl
        go_wp2_with fail
        go_ret2
        exact ⟨none, 0, [], by rw [hE.out]; rfl, by rw [hE.out]; rfl, ⟨Own.nil_ _ _ _ _, fun r h => by simp at h⟩, Step.of⟩
      · by_cases hx2 : (rs.length : Int) ≤ x
        · have HBAD := hide (takeOk_bad (n := rs.length) HX.out (.inr hx2))
          have hE : Hid (T = ([], 1600)) := by show _ = _; rw [← HT.out, takeR, List.length_map, HBAD.out]; rfl
          go_wp2_with fail
          go_ret2
          exact ⟨none, 0, [], by rw [hE.out]; rfl, by rw [hE.out]; rfl, ⟨Own.nil_ _ _ _ _, fun r h => by simp at h⟩, Step.of⟩
        · obtain ⟨xn, rfl⟩ : ∃ xn : Nat, x = (xn : Int) := ⟨x.toNat, by omega⟩
          have hxn : xn < rs.length := by omega
          obtain ⟨b2, off2, rfl, hb2, r, hrk, hri, hcell⟩ := hr.row (w' := wo) inferInstance hxn
          have hlb2 : b2 < wo.heap.size := by omega
          have HVK : Hid ((rs.map RowA.vs)[xn]? = some r.vs) := by show _ = _; simp [hrk]
          have HTS := hide (takeTo_succ HX.out HVK.out)
          have HOK2 := hide (takeOk_succ HOK.out HX.out hxn)
          have PC := hide (fun w' [Fut w0 w'] => pclone_any r w' hri)
          have hx0 : (0 : Int) ≤ (xn : Int) := by omega
          have hx3 : (xn : Int) < (rs.length : Int) := by omega
          clear hrk hx1 hx2
          go_wp2_with (first
            | (go_at_call 115; refine (PC.out _).mono ?_; intro e w5 hr5; obtain ⟨A5, c5, rfl, ho5, hs5⟩ := hr5; have HN5 := hide (ho5.more (base' := w.heap.size) hzo); clear ho5)
            | (at_builtin; have HOW := hide ((HO.out.out.fut (w' := w5)).alloc (.cells #[.slice A5 r.vs.length c5] 67)); have HNew := hide (SlAt.one w5 1 [.slice A5 r.vs.length c5] 67); go_loud (refine wpList_append_sl rfl (.tmp 23) (.tmp 29) 28 rfl eiRow (base := w.heap.size) (xs := os.map RowA.cells) rfl HOW.out (rows_fit _) (ys := [[.slice A5 r.vs.length c5]]) rfl (by simp) HNew.out (slice_fit A5 r.vs.length c5) (by rw [List.length_map, HOL.out]; show (j + 1) * 24 ≤ _; omega) (fut w (w5.alloc (.cells #[.slice A5 r.vs.length c5] 67))).size (N := j + 1) (by rw [List.length_map, HOL.out]; rfl) ?_; intro A7 c7 w7 hq1 hq2 hown7 hgr7 hbel7; have HR7 := hide (OwnR.app (r := ⟨A5, c5, r.vs.map clean⟩) ((HO.out.fut (w' := w5)).fut (w' := w5.alloc (.cells #[.slice A5 r.vs.length c5] 67))) (own_len HN5.out.fut) (row_cells hown7) hgr7); have HB7 := hide hbel7; clear hown7 hgr7 hbel7)))
          go_roundw
          case rel => exact ⟨j + 1, A7, c7, os ++ [⟨A5, c5, r.vs.map clean⟩], by omega, by go_num, rfl, HOK2, by show _ = _; rw [HTS.out, ← HOS.out]; simp, by show _ = _; rw [List.length_append, HOL.out]; rfl, HR7.out, ⟨(fut w (w5.alloc (.cells #[.slice A5 r.vs.length c5] 67))).trans HB7.out⟩⟩
          case measure => simp [intOf]; omega
    · obtain rfl : j = at_.length := by omega
      have hE : Hid (T = (takeTo (rs.map RowA.vs) at_ at_.length, 0)) := by show _ = _; rw [← HT.out, takeR, List.length_map, if_pos HOK.out]
      go_wp2_with fail
      go_ret2
      exact ⟨A', c', os, by rw [hE.out]; exact HOS.out, by rw [hE.out, HOL.out]; rfl, by rw [HOL.out]; exact HO.out, Step.of⟩
end Go.Proofs.YtnphokhehacfnaaGreatDoor

namespace Go.Proofs.YtnphokhehacfnaaGreatDoor
open Go.RowKit

/-- The numbers from a up to b. -/
def rangeI (a : Nat) : Nat → List Int
  | 0 => []
  | b + 1 => if a ≤ b then rangeI a b ++ [(b : Int)] else []
/-- What stands when j places are left out: the next number, and what is given so far. -/
def stW (many : Int) (at_ : List Int) : Nat → Option (Nat × List Int)
  | 0 => some (0, [])
  | j + 1 => match stW many at_ j with
    | some st => if at_.getD j 0 < (st.1 : Int) ∨ many ≤ at_.getD j 0 then none else some ((at_.getD j 0).toNat + 1, st.2 ++ rangeI st.1 (at_.getD j 0).toNat)
    | none => none
def withoutR (many : Int) (at_ : List Int) : List Int × Int :=
  if many < 0 ∨ 4096 < many then ([], 1600) else match stW many at_ at_.length with
    | some st => (st.2 ++ rangeI st.1 many.toNat, 0)
    | none => ([], 1600)
end Go.Proofs.YtnphokhehacfnaaGreatDoor

namespace Go.Proofs.YtnphokhehacfnaaGreatDoor
open Go.RowKit

theorem rowB_len {s : Sch} {vs : List Val} (h : vs.length ≠ s.cols.length) : rowB s vs = false := by simp [rowB, h]
theorem rowB_of {s : Sch} {vs : List Val} (h : vs.length = s.cols.length) : rowB s vs = rowUpto s.cols vs s.cols.length := by simp [rowB, h]
theorem rowUpto_succ {cs : List Col} {vs : List Val} {k : Nat} {c : Col} {v : Val} (h : rowUpto cs vs k = true) (hc : cs[k]? = some c) (hv : vs[k]? = some v) (ho : cellOk c v = true) : rowUpto cs vs (k + 1) = true := by
  simp only [rowUpto, h, hc, hv, ho, Bool.and_self]

set_option maxHeartbeats 2000000 in
theorem prow_any {w0 w1 : World} (g : Nat) (s : Sch) (A : Option Addr) (cap : Nat) (vs : List Val) (Av : Option Addr) (cv : Nat) (w : World) (hb : Blk w0 g 24 [.int .i64 s.id, .slice A s.cols.length cap, .int .i64 s.next]) (h : SchIn w0 s A cap)
    (hv : SlAt w1 w1.heap.size 4 Av (vs.map Val.cells)) [f0 : Fut w0 w] [f1 : Fut w1 w] (hl : vs.length ≤ 4611686018427387904) :
    Calls Tryz.prog 196 #[.pointer (some ⟨g, 0, none⟩), .agg #[.slice Av vs.length cv]] w fun e w' => e = .returned (.bool (rowB s vs)) ∧ Step w w' := by
  have hat := h.at_
  have hn := h.len
  obtain ⟨id, cols, next⟩ := s
  simp only at hat hn hb
  have z0 := f0.below.size
  have z1 := f1.below.size
  have Hb := hide hb
  have lg := hb.lt
  obtain ⟨q0, q1, q2⟩ := At.z3 (hb.fut (w' := w)).at0
  have lg' : g < w.heap.size := by omega
  clear hb
  by_cases hlen : vs.length = cols.length
  · have hq : ((vs.length : Int) != (cols.length : Int)) = false := by simp; omega
    rw [rowB_of hlen]
    have HL := hide hlen; clear hlen
    simp only
    go_enter Tryz.func196, Tryz.ntmps196
    go_wp2
    go_quiet (fail)
    go_wp2
    clear q0 q1 q2
    go_loopw [5, 6, 7, 22] (fun _ _ _ i wr => ∃ k : Nat, k ≤ cols.length ∧ i = .int .i64 k ∧ rowUpto cols vs k = true ∧ Step (w.alloc (.cells #[.slice Av vs.length cv] 67)) wr) (fun _ _ _ i _ => cols.length - (intOf i).toNat)
    case atStart => exact ⟨0, Nat.zero_le _, rfl, rfl, Step.of⟩
    case round =>
      obtain ⟨k, hk, rfl, hok, hst⟩ := hrel
      have HO := hide hok; clear hok
      have hs1 := hst.size
      simp only [hsz] at hs1
      have hs2 : w.heap.size < wr.heap.size := by omega
      have HRB := hide ((Blk.new w [.slice Av vs.length cv] 67).fut (w' := wr))
      have r0 := At.z1 HRB.out.at0
      by_cases hlt : k < cols.length
      · obtain ⟨b, off, rfl, hb, hc⟩ := hat.elem (w' := wr) inferInstance (k := k) (by simpa using hlt)
        obtain ⟨c, hcc⟩ : ∃ c, cols[k]? = some c := ⟨_, List.getElem?_eq_getElem hlt⟩
        obtain ⟨h1, h2, h3⟩ := At.l3 (hc k c.cells (by simp [hcc]))
        obtain ⟨bv, ov, rfl, hbv, hcv⟩ := hv.elem (w' := wr) inferInstance (k := k) (by have := HL.out; simp; omega)
        obtain ⟨v, hvv⟩ : ∃ v, vs[k]? = some v := ⟨_, List.getElem?_eq_getElem (by have := HL.out; omega)⟩
        obtain ⟨v1, v2, v3, v4⟩ := At.l4 (hcv k v.cells (by simp [hvv]))
        have hs3 : b < wr.heap.size := by omega
        have hs4 : bv < wr.heap.size := by omega
        have HC := hide hcc; have HV := hide hvv
        have hkv : k < vs.length := by have := HL.out; omega
        clear hcc hvv hc hcv
        have HA := hide (Blk.new wr [.int .i64 c.id, .string c.name, .int .i64 c.kind] 90)
        go_wp2_with fail
        refine (plain_ag v _).mono ?_
        rintro e w2 ⟨rfl, hs⟩
        clear v1 v2 v3 v4 h1 h2 h3 r0
        have HA2 := hide (HA.out.fut (w' := w2))
        obtain ⟨a0, a1, a2⟩ := At.z3 HA2.out.at0
        have la := HA2.out.lt
        by_cases e1 : kindV v = 0
        · have hco : cellOk c v = true := by simp [cellOk, e1]
          have e1' : (kindV v != 0) = false := by simpa using e1
          have HCO := hide hco
          clear e1 hco
          go_wp2_with fail
          go_roundw
          case rel => exact ⟨k + 1, by omega, by go_num, rowUpto_succ HO.out HC.out HV.out HCO.out, Step.of⟩
          case measure => simp [intOf]; omega
        · have e1' : (kindV v != 0) = true := by simpa using e1
          by_cases e2 : kindV v = c.kind
          · have hco : cellOk c v = true := by simp [cellOk, e2]
            have e2' : (kindV v != c.kind) = false := by simpa using e2
            have HCO := hide hco
            clear e1 e2 hco
            go_wp2_with fail
            go_roundw
            case rel => exact ⟨k + 1, by omega, by go_num, rowUpto_succ HO.out HC.out HV.out HCO.out, Step.of⟩
            case measure => simp [intOf]; omega
          · have hco : cellOk c v = false := by simp [cellOk, e1, e2]
            have e2' : (kindV v != c.kind) = true := by simpa using e2
            have HCO := hide hco
            clear e1 e2 hco
            go_wp2_with fail
            go_ret
            exact ⟨ret_bool (rowUpto_bad HC.out HV.out HCO.out).symm, Step.of⟩
      · obtain rfl : k = cols.length := by omega
        go_wp2_with fail
        go_ret
        exact ⟨ret_bool HO.out.symm, Step.of⟩
  · have hq : ((vs.length : Int) != (cols.length : Int)) = true := by simp; omega
    rw [rowB_len hlen]
    clear hlen
    go_enter Tryz.func196, Tryz.ntmps196
    go_wp2
    go_quiet (fail)
    go_wp2
    go_ret
    exact ⟨rfl, Step.of⟩

end Go.Proofs.YtnphokhehacfnaaGreatDoor

namespace Go.Proofs.YtnphokhehacfnaaGreatDoor
open Go.RowKit

set_option maxRecDepth 100000 in
set_option maxHeartbeats 16000000 in
theorem pof_any {w0 w1 w2 : World} (gp gs : Nat) (ns : List Nod) (A : Option Addr) (cap : Nat) (s : Sch) (As : Option Addr) (cs : Nat) (vs : List Val) (Av : Option Addr) (cv : Nat) (w : World) (hp : PrIn w0 ns A cap) (hs : SchIn w1 s As cs)
    (hv : SlAt w2 w2.heap.size 4 Av (vs.map Val.cells)) [f0 : Fut w0 w] [f1 : Fut w1 w] [f2 : Fut w2 w] (hbp : Blk w gp 34 [.slice A ns.length cap]) (hbs : Blk w gs 24 [.int .i64 s.id, .slice As s.cols.length cs, .int .i64 s.next])
    (hck : checkE ns s = 0) (hvl : vs.length = s.cols.length) :
    Calls Tryz.prog 197 #[.pointer (some ⟨gp, 0, none⟩), .pointer (some ⟨gs, 0, none⟩), .agg #[.slice Av vs.length cv]] w fun e w' => e = .returned (.int .i64 (lastT (evalT s vs ns))) ∧ Step w w' := by
  have hl := hp.len
  have hls := hs.len
  have z0 := f0.below.size; have z1 := f1.below.size; have z2 := f2.below.size
  have CK := hide hck; have VL := hide hvl
  clear hck hvl
  have lgp := hbp.lt; have lgs := hbs.lt
  have HP := hide hbp; have HS := hide hbs
  have p0 := At.z1 (hbp.alloc (.cells #[.slice Av vs.length cv] 67)).at0
  clear hbp hbs
  have h24 : ns.length ≤ 24 := (predB_iff.1 (checkE_inv CK.out).1).1
  have HRB := hide (Blk.new w [.slice Av vs.length cv] 67)
  obtain ⟨W, hW⟩ : ∃ W, W = w.alloc (.cells #[.slice Av vs.length cv] 67) := ⟨_, rfl⟩
  have SW : Step w W := by rw [hW]; exact Step.of
  have HPW : Hid (Blk W gp 34 [.slice A ns.length cap]) := by rw [hW]; exact HP.out.alloc _
  have HSW : Hid (Blk W gs 24 [.int .i64 s.id, .slice As s.cols.length cs, .int .i64 s.next]) := by rw [hW]; exact HS.out.alloc _
  have HRW : Hid (Blk W w.heap.size 67 [.slice Av vs.length cv]) := by rw [hW]; exact HRB.out
  have hzW : W.heap.size = w.heap.size + 1 := by rw [hW]; simp
  have HZ := hide hzW
  have HW := hide hW
  clear hW hzW HP HS HRB
  go_enter Tryz.func197, Tryz.ntmps197
  go_wp2
  rw [← HW.out]
  clear p0
  go_loopw [7, 8, 9, 10, 16] (fun last all _ _ i wr => ∃ (k : Nat) (A' : Option Addr) (c' : Nat), k ≤ ns.length ∧ i = .int .i64 k ∧ last = .int .i64 (lastT (evalT s vs (ns.take k))) ∧ all = .slice A' k c' ∧ Own wr W.heap.size 3 1 (.slice A' k c') (intCells (evalT s vs (ns.take k))) ∧ Step W wr) (fun _ _ _ _ i _ => ns.length - (intOf i).toNat)
  case atStart => exact ⟨0, none, 0, Nat.zero_le _, rfl, rfl, rfl, Own.nil_ _ _ _ _, Step.of⟩
  case round =>
    obtain ⟨k, A', c', hk, rfl, rfl, rfl, hown, hst⟩ := hrel
    have HO := hide hown; clear hown
    have hs1 := hst.size
    have hsz := HZ.out
    have lg0 : gp < wr.heap.size := by omega
    have lg1 : gs < wr.heap.size := by omega
    have lg2 : w.heap.size < wr.heap.size := by omega
    clear hsz
    have p0 := At.z1 (HPW.out.fut (w' := wr)).at0
    by_cases hlt : k < ns.length
    · obtain ⟨b, off, rfl, hb, n, hn, hat⟩ := hp.node (w' := wr) inferInstance hlt
      have hlb : b < wr.heap.size := by omega
      have HN := hide hn; clear hn
      have HAT := hide hat; clear hat
      have hkl : (k : Int) < (ns.length : Int) := by omega
      obtain ⟨x, HX, HTX⟩ : ∃ x, Hid (stepT s vs (evalT s vs (ns.take k)) n = x) ∧ Hid (evalT s vs (ns.take (k + 1)) = evalT s vs (ns.take k) ++ [x]) := ⟨_, rfl, evalT_take s vs ns k n HN.out⟩
      have HLN : Hid ((evalT s vs (ns.take k)).length = k) := by show _ = _; rw [evalT_len]; simp; omega
      obtain ⟨n0, n1, n2, n3, n4, n5, n6, n7, n8⟩ := At.l9 HAT.out
      go_upto_block 2 with (fail)
      go_cut [7, 48, 50, 67] from 29 to 87 (fun last _ _ _ wx => last = .int .i64 x ∧ Step wr wx)
      case first =>
        have hkinds := node_kinds CK.out HN.out
        rcases hkinds with h0 | h12 | ⟨h3, l, hl', hlk⟩ | ⟨h45, l, r, hl', hr', hlk, hrk⟩
        · have E := hide ((step_true h0).symm.trans HX.out)
          have e0 : (n.kind == 0) = true := by simpa using h0
          clear h0
          go_wp2_with fail
          go_meet
          case rel => exact ⟨by rw [← E.out], Step.of⟩
        · obtain ⟨j, hi, hj, hf⟩ := node_col CK.out HN.out h12
          obtain ⟨v, hvv⟩ : ∃ v, vs[j]? = some v := ⟨_, List.getElem?_eq_getElem (by have := VL.out; omega)⟩
          have E := hide ((step_leaf (acc := evalT s vs (ns.take k)) h12 hf hvv).symm.trans HX.out)
          obtain ⟨bv, ov, rfl, hbv, hcv⟩ := hv.elem (w' := wr) inferInstance (k := j) (by have := VL.out; simp; omega)
          obtain ⟨v0, v1, v2, v3⟩ := At.l4 (hcv j v.cells (by simp [hvv]))
          have hlv : bv < wr.heap.size := by omega
          have fd := fun w' [Fut w1 w'] => pfind s As cs n.col w' hs
          unfold Sch.val at fd
          rw [hi] at fd
          have FD := hide fd
          have lf := fun w' [Fut wr w'] => pleaf_any b (off + k * 9) n v w' HAT.out hlb h12
          unfold Val.val at lf
          have LF := hide lf
          have hj0 : (0 : Int) ≤ (j : Int) := by omega
          have hj1 : (j : Int) < (vs.length : Int) := by have := VL.out; omega
          obtain ⟨q0, q1, q2⟩ := At.z3 (HSW.out.fut (w' := wr)).at0
          have r0 := At.z1 (HRW.out.fut (w' := wr)).at0
          have e0 : (n.kind == 0) = false := by rcases h12 with h | h <;> simp [h]
          clear hcv hvv hi hf fd lf
          have h12' : (n.kind == 1) = true ∨ (n.kind == 1) = false ∧ (n.kind == 2) = true := by rcases h12 with h | h <;> simp [h]
          clear h12
          rcases h12' with e1 | ⟨e1, e2⟩
          all_goals
            go_upto_region 13 with (fail)
            refine wp_region_held_drew (S := (fun w' => Step wr w' ∧ (∀ b o, b < wr.heap.size → w'.cell? ⟨b, o, none⟩ = wr.cell? ⟨b, o, none⟩))) (by kernel_rfl) (by (try dsimp only); (first | exact ⟨hS1, hS2⟩ | exact ⟨Step.of, (bcell (fut _ _)).1⟩)) (fun hHeld => ?_)
            refine wT 0 53 (by assumption) ?_
            refine wT 1 54 (by assumption) ?_
            refine wT 2 55 (by assumption) ?_
            refine wT 3 56 (by assumption) ?_
            refine wT 4 57 (by assumption) ?_
            refine wT 5 58 (by assumption) ?_
            refine wT 6 59 (by assumption) ?_
            refine wT 7 60 (by assumption) ?_
            refine wT 8 61 (by assumption) ?_
            refine wT 9 62 (by assumption) ?_
            refine wpAnyH_ready (rs := [10]) (by kernel_rfl) (by simp) ?_
            refine AllReadyH.cons (o := ⟨some 63, _, _, _, _, _⟩) rfl (fun K hK => ?_) AllReadyH.nil
            obtain ⟨hS1, hS2⟩ := hHeld
            go_simp
            (go_at_call 125; (with_reducible refine (FD.out _).mono ?_); rintro e w' ⟨rfl, hq⟩)
            refine hK.out _ _ (by (try dsimp only); (first | exact ⟨hS1, hS2⟩ | exact ⟨Step.of, (bcell (fut _ _)).1⟩)) (fun hHeld => ?_)
            clear hK K
            (try simp only [Act.put, List.setIfInBounds_toArray, List.set_cons_zero, List.set_cons_succ])
            refine wT 11 64 (by assumption) ?_
            refine wT 12 65 (by assumption) ?_
            refine wpAnyH_ready (rs := [13]) (by kernel_rfl) (by simp) ?_
            refine AllReadyH.cons (o := ⟨some 66, _, _, _, _, _⟩) rfl (fun K hK => ?_) AllReadyH.nil
            obtain ⟨hS1, hS2⟩ := hHeld
            go_simp
            (go_at_call 203; (with_reducible refine (LF.out _).mono ?_); rintro e w' ⟨rfl, hq⟩)
            refine hK.out _ _ (by (try dsimp only); (first | exact ⟨hS1, hS2⟩ | exact ⟨Step.of, (bcell (fut _ _)).1⟩)) (fun hHeld => ?_)
            clear hK K
            (try simp only [Act.put, List.setIfInBounds_toArray, List.set_cons_zero, List.set_cons_succ])
            refine wT 14 7 (by assumption) ?_
            refine wpAnyH_done (by kernel_rfl) ?_ _
            obtain ⟨hS1, hS2⟩ := hHeld
            go_wp2_with fail
            go_meet
            case rel => exact ⟨by rw [← E.out], Step.of⟩
        · obtain ⟨y, hy1, hy2, hy3⟩ := evalT_get (s := s) (vs := vs) hk hlk
          have E0 := (step_not h3 hl' hy2).symm.trans HX.out
          obtain ⟨bo, oo, rfl, hbo, hco⟩ := (HO.out.sl (int_fit _).len).elem (Fut.self _) (k := l) (by rw [intCells_len, HLN.out]; exact hlk)
          have c0 := At.l1 (hco l [.int .i64 y] (by simp [intCells, hy1]))
          simp only [Nat.mul_one] at c0
          rw [hl'] at n7
          have hl0 : (0 : Int) ≤ (l : Int) := by omega
          have hl1 : (l : Int) < (k : Int) := by omega
          have PJ := hide (fun w' => pjoin_any n.kind y y w' (.inl h3) hy3 hy3)
          have E : Hid (joinT n.kind y y = x) := by show _ = _; rw [h3]; exact E0
          have e0 : (n.kind == 0) = false := by simp [h3]
          have e1 : (n.kind == 1) = false := by simp [h3]
          have e2 : (n.kind == 2) = false := by simp [h3]
          have e3 : (n.kind == 3) = true := by simp [h3]
          clear h3 hl' hlk hy1 hy2 hy3 hco E0
          go_upto_region 15 with (fail)
          go_quiet ((go_at_call 204; exact Calls.quiet_of_same ((PJ.out _).mono fun _ _ h => ⟨h.1, h.2.symm⟩)))
          go_wp2_with fail
          go_meet
          case rel => exact ⟨by rw [← E.out], Step.of⟩
        · obtain ⟨y, hy1, hy2, hy3⟩ := evalT_get (s := s) (vs := vs) hk hlk
          obtain ⟨z, hz1, hz2, hz3⟩ := evalT_get (s := s) (vs := vs) hk hrk
          have E := hide ((step_two h45 hl' hr' hy2 hz2).symm.trans HX.out)
          obtain ⟨bo, oo, rfl, hbo, hco⟩ := (HO.out.sl (int_fit _).len).elem (Fut.self _) (k := l) (by rw [intCells_len, HLN.out]; exact hlk)
          have c0 := At.l1 (hco l [.int .i64 y] (by simp [intCells, hy1]))
          have d0 := At.l1 (hco r [.int .i64 z] (by simp [intCells, hz1]))
          simp only [Nat.mul_one] at c0 d0
          rw [hl'] at n7
          rw [hr'] at n8
          have hl0 : (0 : Int) ≤ (l : Int) := by omega
          have hl1 : (l : Int) < (k : Int) := by omega
          have hr0 : (0 : Int) ≤ (r : Int) := by omega
          have hr1 : (r : Int) < (k : Int) := by omega
          have PJ := hide (fun w' => pjoin_any n.kind y z w' (.inr h45) hy3 hz3)
          have e0 : (n.kind == 0) = false := by rcases h45 with h | h <;> simp [h]
          have e1 : (n.kind == 1) = false := by rcases h45 with h | h <;> simp [h]
          have e2 : (n.kind == 2) = false := by rcases h45 with h | h <;> simp [h]
          have e3 : (n.kind == 3) = false := by rcases h45 with h | h <;> simp [h]
          clear h45 hl' hr' hlk hrk hy1 hy2 hy3 hz1 hz2 hz3 hco
          go_upto_region 8 with (fail)
          go_quiet ((go_at_call 204; exact Calls.quiet_of_same ((PJ.out _).mono fun _ _ h => ⟨h.1, h.2.symm⟩)))
          go_wp2_with fail
          go_meet
          case rel => exact ⟨by rw [← E.out], Step.of⟩
      case rest =>
        obtain ⟨rfl, hsx⟩ := hcut
        clear p0 hlb HAT n0 n1 n2 n3 n4 n5 n6 n7 n8
        have hz5 := hsx.size
        have HNew := hide (SlAt.one wc 1 [.int .i64 x] 3)
        have HOw := hide ((HO.out.fut (w' := wc)).alloc (.cells #[.int .i64 x] 3))
        go_wp2_with (at_builtin; go_loud (refine wpList_append_sl rfl (.tmp 88) (.tmp 90) 68 rfl eiInt (base := W.heap.size) (xs := intCells (evalT s vs (ns.take k))) rfl HOw.out (int_fit _) (ys := [[.int .i64 x]]) rfl (by simp) HNew.out (int_fit [x]) (by rw [intCells_len, HLN.out]; simp; omega) (by simp; omega) (N := k + 1) (by rw [intCells_len, HLN.out]; rfl) ?_; intro A5 c5 w5 hq1 hq2 hown5 hgr5 hbel5; have H5 := hide hown5; have HB5 := hide hbel5; clear hown5 hgr5 hbel5))
        go_roundw
        case rel =>
          refine ⟨k + 1, A5, c5, by omega, by go_num, by rw [HTX.out, lastT_snoc], rfl, ?_, ⟨?_⟩⟩
          · rw [HTX.out]
            have := H5.out
            simpa [intCells] using this
          · exact (fut W (wc.alloc _)).trans HB5.out
        case measure => simp [intOf]; omega
    · obtain rfl : k = ns.length := by omega
      go_wp2_with fail
      go_ret
      exact ⟨ret_int (by rw [List.take_length]), Step.of⟩

set_option maxHeartbeats 4000000 in
theorem ptruthR_any {w0 w1 w2 : World} (ns : List Nod) (A : Option Addr) (cap : Nat) (s : Sch) (As : Option Addr) (cs : Nat) (vs : List Val) (Av : Option Addr) (cv : Nat) (w : World) (hp : PrIn w0 ns A cap) (hs : SchIn w1 s As cs)
    (hv : SlAt w2 w2.heap.size 4 Av (vs.map Val.cells)) [f0 : Fut w0 w] [f1 : Fut w1 w] [f2 : Fut w2 w] (hvl : vs.length ≤ 4611686018427387904) :
    Calls Tryz.prog 181 #[.agg #[.slice A ns.length cap], s.val As cs, .agg #[.slice Av vs.length cv]] w fun e w' => e = .returned (.tuple #[.int .i64 (truthR ns s vs).1, .int .i64 (truthR ns s vs).2]) ∧ Step w w' := by
  obtain ⟨T, hT⟩ : ∃ T, truthR ns s vs = T := ⟨_, rfl⟩
  have HT := hide hT
  rw [hT]
  clear hT
  have pc := fun w' [Fut w0 w'] [Fut w1 w'] => pcheck_any ns A cap s As cs w' hp hs
  unfold Sch.val at pc ⊢
  obtain ⟨W, hW⟩ : ∃ W, W = ((w.alloc (.cells #[.slice A ns.length cap] 34)).alloc (.cells #[.int .i64 s.id, .slice As s.cols.length cs, .int .i64 s.next] 24)).alloc (.cells #[.slice Av vs.length cv] 67) := ⟨_, rfl⟩
  have SW : Step w W := by rw [hW]; exact Step.of
  have HPW : Hid (Blk W w.heap.size 34 [.slice A ns.length cap]) := by rw [hW]; exact ((Blk.new w [.slice A ns.length cap] 34).alloc _).alloc _
  have HSW : Hid (Blk W (w.heap.size + 1) 24 [.int .i64 s.id, .slice As s.cols.length cs, .int .i64 s.next]) := by rw [hW]; exact (Blk.new_at (by simp) [.int .i64 s.id, .slice As s.cols.length cs, .int .i64 s.next] 24).alloc _
  have HRW : Hid (Blk W (w.heap.size + 2) 67 [.slice Av vs.length cv]) := by rw [hW]; exact Blk.new_at (by simp) [.slice Av vs.length cv] 67
  have HW := hide hW
  clear hW
  by_cases hc : checkE ns s = 0
  · have CK := hide hc
    rw [hc] at pc
    have PC := hide pc
    clear pc hc
    cases hrb : rowB s vs with
    | true =>
      have hE : Hid (T = (lastT (evalT s vs ns), 0)) := by show _ = _; rw [← HT.out, truthR, CK.out, if_neg (by simp), if_pos hrb]
      have hvl2 : vs.length = s.cols.length := by
        by_cases h : vs.length = s.cols.length
        · exact h
        · rw [rowB_len h] at hrb; cases hrb
      have VL := hide hvl2
      have RB := hide hrb
      clear hrb hvl2
      go_enter Tryz.func181, Tryz.ntmps181
      go_wp2_with fail
      refine (PC.out _).mono ?_
      rintro e w3 ⟨rfl, hs3⟩
      rw [← HW.out] at hs3
      have r0 := At.z1 (HRW.out.fut (w' := w3)).at0
      have lr := (HRW.out.fut (w' := w3)).lt
      go_wp2_with fail
      have pr := prow_any (w0 := w3) (w.heap.size + 1) s As cs vs Av cv w3 (HSW.out.fut (w' := w3)) hs.fut hv hvl
      rw [RB.out] at pr
      refine pr.mono ?_
      clear pr
      rintro e w4 ⟨rfl, hs4⟩
      clear r0 lr
      have r0 := At.z1 (HRW.out.fut (w' := w4)).at0
      have lr := (HRW.out.fut (w' := w4)).lt
      go_wp2_with fail
      refine (pof_any (w.heap.size) (w.heap.size + 1) ns A cap s As cs vs Av cv w4 hp hs hv (HPW.out.fut (w' := w4)) (HSW.out.fut (w' := w4)) CK.out VL.out).mono ?_
      rintro e w5 ⟨rfl, hs5⟩
      clear r0 lr
      go_wp2_with fail
      go_ret2
      exact ⟨by rw [hE.out]; rfl, Step.of⟩
    | false =>
      have hE : Hid (T = (0, 1500)) := by show _ = _; rw [← HT.out, truthR, CK.out, if_neg (by simp), if_neg (by simp [hrb])]
      have RB := hide hrb
      clear hrb
      go_enter Tryz.func181, Tryz.ntmps181
      go_wp2_with fail
      refine (PC.out _).mono ?_
      rintro e w3 ⟨rfl, hs3⟩
      rw [← HW.out] at hs3
      have r0 := At.z1 (HRW.out.fut (w' := w3)).at0
      have lr := (HRW.out.fut (w' := w3)).lt
      go_wp2_with fail
      have pr := prow_any (w0 := w3) (w.heap.size + 1) s As cs vs Av cv w3 (HSW.out.fut (w' := w3)) hs.fut hv hvl
      rw [RB.out] at pr
      refine pr.mono ?_
      clear pr
      rintro e w4 ⟨rfl, hs4⟩
      clear r0 lr
      go_wp2_with fail
      go_ret2
      exact ⟨by rw [hE.out]; rfl, Step.of⟩
  · have hE : Hid (T = (0, checkE ns s)) := by show _ = _; rw [← HT.out, truthR, if_pos hc]
    have hcb : (checkE ns s != 0) = true := by simpa using hc
    have PC := hide pc
    clear pc hc
    go_enter Tryz.func181, Tryz.ntmps181
    go_wp2_with fail
    refine (PC.out _).mono ?_
    rintro e w3 ⟨rfl, hs3⟩
    rw [← HW.out] at hs3
    go_wp2_with fail
    go_ret2
    exact ⟨by rw [hE.out]; rfl, Step.of⟩
end Go.Proofs.YtnphokhehacfnaaGreatDoor

