/-
  sel.Sort: rows in order.
-/
import Derived.Test.YtafgfehjdbomfaaDoorHi
import Derived.Test.YtafgfehjdbomfaaDoorGe
namespace Go.Proofs.YtafgfehjdbomfaaDoor
open Go.RowKit

theorem eiPile : EI Tryd.prog 90 54 1 24 :=
  ⟨Tryd.underlying90, info_parts (show (Tryd.prog.info? 54).map (fun i => (i.zero, i.size, i.bytes)) = some (some (.agg #[.slice none 0 0]), 1, 24) by kernel_rfl) |>.elim fun i h => ⟨i, _, h.1, h.2.1, h.2.2.1, h.2.2.2, rfl⟩, by decide, by decide⟩
def lenV : Value → Nat
  | .slice _ n _ => n
  | _ => 0
theorem run_assert (u : Value) (w : World) : (Instr.typeAssert (.iface 54 (.agg #[u])) 20 54 true).run Tryd.prog w = .ok (.tuple #[.agg #[u], .bool true]) w := by kernel_rfl
theorem OwnR.grownQ {w w' : World} {base B n c : Nat} {A : Option Addr} {rs : List RowA} {v : Value} {l : List (List Value)} (h : OwnR w base A n c rs) (ho : Own w B 54 1 v l) (hlt : ∀ q, (Value.slice A n c).ownBlock = some q → q < B) (hg : w.grownBy w' v.ownBlock) : OwnR w' base A n c rs :=
  ⟨h.out.grown_other hg (fun k hk e => by have h1 := (ho.lt k e).1; have h2 := hlt k hk; omega), fun r hr => (h.rows r hr).grown_other hg (own_ne (h.rows r hr) ho (by decide))⟩
theorem ownBlock_any {A : Option Addr} {n c n' c' : Nat} : (Value.slice A n c).ownBlock = (Value.slice A n' c').ownBlock := by cases A <;> rfl
theorem clean_fine {v : Val} (h : v.s.size ≤ 9223372036854775807) : (clean v).s.size ≤ 9223372036854775807 := by
  rcases clean_cases v with ⟨_, e⟩ | ⟨_, e⟩ | ⟨_, e⟩ | ⟨_, e⟩ <;> rw [e] <;> first | exact h | exact Nat.zero_le _
theorem asc_map {l : List RowA} (h : Asc ltA l) : Asc lessL (l.map RowA.vs) := by
  unfold Asc at *
  rw [List.pairwise_map]
  exact h
def cleanL (vs : List Val) : List Val := vs.map clean
set_option maxRecDepth 100000 in
set_option maxHeartbeats 16000000 in
theorem psort_any {w0 : World} (rs : List RowA) (Ar : Option Addr) (cr : Nat) (w : World) (hr : RowsIn w0 rs Ar cr) [f0 : Fut w0 w] :
    Calls Tryd.prog 24 #[.slice Ar rs.length cr] w fun e w' => ∃ (A' : Option Addr) (c' : Nat) (os : List RowA), e = .returned (.slice A' rs.length c') ∧ os.length = rs.length ∧ Asc lessL (os.map RowA.vs) ∧ (os.map RowA.vs).Perm (rs.map fun r => cleanL r.vs) ∧ OwnR w' w.heap.size A' rs.length c' os ∧ Step w w' := by
  have z0 := f0.below.size
  have hrc := hr.hcap; have hrm := hr.hcapm
  obtain ⟨W, hW⟩ : ∃ W, W = w.alloc (.cells #[.slice none 0 0] 90) := ⟨_, rfl⟩
  have SW : Step w W := by rw [hW]; exact Step.of
  obtain ⟨gp, hgp⟩ : ∃ gp, gp = w.heap.size := ⟨_, rfl⟩
  have HG : Hid (Blk W gp 90 [.slice none 0 0]) := by rw [hW, hgp]; exact Blk.new w [.slice none 0 0] 90
  have NG : Newer w gp := ⟨by omega⟩
  have hgW : gp < W.heap.size := HG.out.lt
  have HW := hide hW
  have hzW := SW.size
  clear hW
  go_enter Tryd.func24, Tryd.ntmps24
  go_upto_region 2 with (fail)
  rw [← HW.out]
  rw [← hgp]
  clear hgp
  go_wp2_with fail
  go_loopw [5, 11] (fun _ i wr => ∃ (k : Nat) (A' : Option Addr) (c' : Nat) (ps : List RowA), k ≤ rs.length ∧ i = .int .i64 k ∧ Blk wr gp 90 [.slice A' k c'] ∧ OwnR wr w.heap.size A' k c' ps ∧ Hid (ps.map RowA.vs = (rs.take k).map fun r => cleanL r.vs) ∧ Hid (ps.length = k) ∧ Step w wr) (fun _ i _ => rs.length - (intOf i).toNat)
  case atStart => exact ⟨0, none, 0, [], Nat.zero_le _, rfl, HG.out, ⟨Own.nil_ _ _ _ _, fun r h => by simp at h⟩, rfl, rfl, SW⟩
  case round =>
    obtain ⟨k, A', c', ps, hk, rfl, hbp, how, HPS, HLN, hst⟩ := hrel
    clear HG
    have HO := hide how; have HB0 := hide hbp
    clear how hbp
    obtain ⟨wo, hwo⟩ : ∃ x : World, x = wr := ⟨_, rfl⟩
    rw [← hwo] at HO HB0 hst
    rw [← hwo]
    clear hwo
    have hzo := hst.size
    by_cases hlt : k < rs.length
    · obtain ⟨b2, off2, hA2, hb2, r, hrk, hri, hcell⟩ := hr.row (w' := wo) inferInstance hlt
      rw [hA2]
      have hlb2 : b2 < wo.heap.size := by omega
      have HTK : Hid (((rs.take (k + 1)).map fun r => cleanL r.vs) = ((rs.take k).map fun r => cleanL r.vs) ++ [r.vs.map clean]) := by show _ = _; rw [List.take_add_one, hrk]; simp [cleanL]
      have PC := hide (fun w' [Fut w0 w'] => pclone_any r w' hri)
      have hkl : (k : Int) < (rs.length : Int) := by omega
      have hk0 : (0 : Int) ≤ (k : Int) := by omega
      clear hrk hA2
      go_upto_region 5 with (fail)
      clear hcell hlb2
      obtain ⟨X, hX⟩ : ∃ X, X = wo.alloc (.cells #[.slice r.A r.vs.length r.cap] 54) := ⟨_, rfl⟩
      have SX : Step wo X := by rw [hX]; exact Step.of
      have HX1 : Hid (Blk X wo.heap.size 54 [.slice r.A r.vs.length r.cap]) := by rw [hX]; exact Blk.new wo [.slice r.A r.vs.length r.cap] 54
      rw [← hX]
      clear hX
      have hzX : w.heap.size ≤ X.heap.size := (fut w X).size
      have HB := hide (HB0.out.fut (w' := X))
      have HO := hide (OwnR.fut (w' := X) HO.out)
      have x0 := At.z1 HX1.out.at0; have lx := HX1.out.lt
      have k3 := At.z1 HB.out.at0; have lc3 := HB.out.lt
      refine wp_region_held_drew (S := (fun w' => Step w w' ∧ True)) (by kernel_rfl) (by (try dsimp only); (exact ⟨Step.of, trivial⟩)) (fun hHeld => ?_)
      refine wpAnyH_ready (rs := [0, 1]) (by kernel_rfl) (by simp) ?_
      refine AllReadyH.cons (o := ⟨some 15, _, _, _, _, _⟩) rfl (fun K hK => ?_) (AllReadyH.cons (o := ⟨some 16, _, _, _, _, _⟩) rfl (fun K hK => ?_) AllReadyH.nil)
      · go_simp
        refine hK.out _ _ (by (try dsimp only); (exact ⟨Step.of, trivial⟩)) (fun hHeld => ?_)
        clear hK K
        (try simp only [Act.put, List.setIfInBounds_toArray, List.set_cons_zero, List.set_cons_succ])
        refine wpAnyH_ready (rs := [1]) (by kernel_rfl) (by simp) ?_
        refine AllReadyH.cons (o := ⟨some 16, _, _, _, _, _⟩) rfl (fun K hK => ?_) AllReadyH.nil
        go_simp
        refine hK.out _ _ (by (try dsimp only); (exact ⟨Step.of, trivial⟩)) (fun hHeld => ?_)
        clear hK K
        (try simp only [Act.put, List.setIfInBounds_toArray, List.set_cons_zero, List.set_cons_succ])
        refine wpAnyH_ready (rs := [2]) (by kernel_rfl) (by simp) ?_
        refine AllReadyH.cons (o := ⟨some 17, _, _, _, _, _⟩) rfl (fun K hK => ?_) AllReadyH.nil
        obtain ⟨hS1, hS2⟩ := hHeld
        go_simp
        (go_at_call 39; (with_reducible refine (PC.out _).mono ?_); rintro e w6 ⟨A6, c6, rfl, ho6, hs6⟩; have HO6 := hide (ho6.more (base' := w.heap.size) (by first | exact hzX | exact (fut w X).size)); clear ho6 k3 lc3; have k_ := HB.out.fut (w' := w6); have k3 := At.z1 k_.at0; have lc3 := k_.lt; clear k_)
        refine hK.out _ _ (by (try dsimp only); (exact ⟨Step.of, trivial⟩)) (fun hHeld => ?_)
        clear hK K
        (try simp only [Act.put, List.setIfInBounds_toArray, List.set_cons_zero, List.set_cons_succ])
        refine wpAnyH_ready (rs := [3]) (by kernel_rfl) (by simp) ?_
        refine AllReadyH.cons (o := ⟨some 18, _, _, _, _, _⟩) rfl (fun K hK => ?_) AllReadyH.nil
        go_simp
        refine hK.out _ _ (by (try dsimp only); (exact ⟨Step.of, trivial⟩)) (fun hHeld => ?_)
        clear hK K
        (try simp only [Act.put, List.setIfInBounds_toArray, List.set_cons_zero, List.set_cons_succ])
        refine wpAnyH_ready (rs := [4]) (by kernel_rfl) (by simp) ?_
        refine AllReadyH.cons (o := ⟨some 19, _, _, _, _, _⟩) rfl (fun K hK => ?_) AllReadyH.nil
        (have HOW := hide ((HO.out.out.fut (w' := w6)).alloc (.cells #[.slice A6 r.vs.length c6] 54)); have HNew := hide (SlAt.one w6 1 [.slice A6 r.vs.length c6] 54); refine step_append_sl rfl (.tmp 15) (.tmp 18) 90 rfl eiPile (base := w.heap.size) (xs := ps.map RowA.cells) rfl HOW.out (rows_fit _) (ys := [[.slice A6 r.vs.length c6]]) rfl (by simp) HNew.out (slice_fit A6 r.vs.length c6) (by rw [List.length_map, HLN.out]; show (k + 1) * 24 ≤ _; omega) (fut w (w6.alloc (.cells #[.slice A6 r.vs.length c6] 54))).size (N := k + 1) (by rw [List.length_map, HLN.out]; rfl) ?_; intro A7 c7 w7 hq1 hq2 hown7 hgr7 hbel7; have HR7 := hide (OwnR.app (r := ⟨A6, c6, r.vs.map clean⟩) (OwnR.fut (w' := w6.alloc (.cells #[.slice A6 r.vs.length c6] 54)) HO.out) (by have q := HO6.out.alloc (.cells #[.slice A6 r.vs.length c6] 54); show Own _ _ _ _ (.slice A6 (r.vs.map clean).length c6) _; rw [List.length_map]; exact q) (by show Own _ _ _ _ _ (_ ++ [[.slice A6 (r.vs.map clean).length c6]]); rw [List.length_map]; exact hown7) hgr7); have hb3 := ((HB.out.fut (w' := w6)).alloc (.cells #[.slice A6 r.vs.length c6] 54)).grown hgr7 (HOW.out.ne_ ((HB.out.fut (w' := w6)).alloc (.cells #[.slice A6 r.vs.length c6] 54)) (by decide)); have hs7 : Step w w7 := ⟨(fut w (w6.alloc (.cells #[.slice A6 r.vs.length c6] 54))).trans hbel7⟩; clear k3 lc3; have k3 := At.z1 hb3.at0; have f3 := hb3.free; have lc3 := hb3.lt; have HD3 := hide hb3; clear hown7 hgr7 hbel7 hb3)
        refine hK.out _ _ (by (try dsimp only); (exact ⟨hs7, trivial⟩)) (fun hHeld => ?_)
        clear hK K
        (try simp only [Act.put, List.setIfInBounds_toArray, List.set_cons_zero, List.set_cons_succ])
        refine wpAnyH_ready (rs := [5]) (by kernel_rfl) (by simp) ?_
        refine AllReadyH.cons (o := ⟨none, _, _, _, _, _⟩) rfl (fun K hK => ?_) AllReadyH.nil
        go_simp
        refine hK.out _ _ (by (try dsimp only); (exact ⟨⟨(fut w w7).setCell NG.le _⟩, trivial⟩)) (fun hHeld => ?_)
        clear hK K
        (try simp only [Act.put, List.setIfInBounds_toArray, List.set_cons_zero, List.set_cons_succ])
        refine wpAnyH_done (by kernel_rfl) ?_ _
        go_wp2_with fail
        go_roundw
        case rel =>
          refine ⟨k + 1, A7, c7, ps ++ [⟨A6, c6, r.vs.map clean⟩], by omega, by go_num, HD3.out.set_ 0 _, HR7.out.grownP HD3.out (grown_setCell w7 gp 0 _), ?_, ?_, ⟨(fut w w7).setCell NG.le _⟩⟩
          · show _ = _; rw [HTK.out, List.map_append, HPS.out]; rfl
          · show _ = _; rw [List.length_append, HLN.out]; rfl
        case measure => simp [intOf]; omega
      · go_simp
        refine hK.out _ _ (by (try dsimp only); (exact ⟨Step.of, trivial⟩)) (fun hHeld => ?_)
        clear hK K
        (try simp only [Act.put, List.setIfInBounds_toArray, List.set_cons_zero, List.set_cons_succ])
        refine wpAnyH_ready (rs := [0, 2]) (by kernel_rfl) (by simp) ?_
        refine AllReadyH.cons (o := ⟨some 15, _, _, _, _, _⟩) rfl (fun K hK => ?_) (AllReadyH.cons (o := ⟨some 17, _, _, _, _, _⟩) rfl (fun K hK => ?_) AllReadyH.nil)
        · go_simp
          refine hK.out _ _ (by (try dsimp only); (exact ⟨Step.of, trivial⟩)) (fun hHeld => ?_)
          clear hK K
          (try simp only [Act.put, List.setIfInBounds_toArray, List.set_cons_zero, List.set_cons_succ])
          refine wpAnyH_ready (rs := [2]) (by kernel_rfl) (by simp) ?_
          refine AllReadyH.cons (o := ⟨some 17, _, _, _, _, _⟩) rfl (fun K hK => ?_) AllReadyH.nil
          obtain ⟨hS1, hS2⟩ := hHeld
          go_simp
          (go_at_call 39; (with_reducible refine (PC.out _).mono ?_); rintro e w6 ⟨A6, c6, rfl, ho6, hs6⟩; have HO6 := hide (ho6.more (base' := w.heap.size) (by first | exact hzX | exact (fut w X).size)); clear ho6 k3 lc3; have k_ := HB.out.fut (w' := w6); have k3 := At.z1 k_.at0; have lc3 := k_.lt; clear k_)
          refine hK.out _ _ (by (try dsimp only); (exact ⟨Step.of, trivial⟩)) (fun hHeld => ?_)
          clear hK K
          (try simp only [Act.put, List.setIfInBounds_toArray, List.set_cons_zero, List.set_cons_succ])
          refine wpAnyH_ready (rs := [3]) (by kernel_rfl) (by simp) ?_
          refine AllReadyH.cons (o := ⟨some 18, _, _, _, _, _⟩) rfl (fun K hK => ?_) AllReadyH.nil
          go_simp
          refine hK.out _ _ (by (try dsimp only); (exact ⟨Step.of, trivial⟩)) (fun hHeld => ?_)
          clear hK K
          (try simp only [Act.put, List.setIfInBounds_toArray, List.set_cons_zero, List.set_cons_succ])
          refine wpAnyH_ready (rs := [4]) (by kernel_rfl) (by simp) ?_
          refine AllReadyH.cons (o := ⟨some 19, _, _, _, _, _⟩) rfl (fun K hK => ?_) AllReadyH.nil
          (have HOW := hide ((HO.out.out.fut (w' := w6)).alloc (.cells #[.slice A6 r.vs.length c6] 54)); have HNew := hide (SlAt.one w6 1 [.slice A6 r.vs.length c6] 54); refine step_append_sl rfl (.tmp 15) (.tmp 18) 90 rfl eiPile (base := w.heap.size) (xs := ps.map RowA.cells) rfl HOW.out (rows_fit _) (ys := [[.slice A6 r.vs.length c6]]) rfl (by simp) HNew.out (slice_fit A6 r.vs.length c6) (by rw [List.length_map, HLN.out]; show (k + 1) * 24 ≤ _; omega) (fut w (w6.alloc (.cells #[.slice A6 r.vs.length c6] 54))).size (N := k + 1) (by rw [List.length_map, HLN.out]; rfl) ?_; intro A7 c7 w7 hq1 hq2 hown7 hgr7 hbel7; have HR7 := hide (OwnR.app (r := ⟨A6, c6, r.vs.map clean⟩) (OwnR.fut (w' := w6.alloc (.cells #[.slice A6 r.vs.length c6] 54)) HO.out) (by have q := HO6.out.alloc (.cells #[.slice A6 r.vs.length c6] 54); show Own _ _ _ _ (.slice A6 (r.vs.map clean).length c6) _; rw [List.length_map]; exact q) (by show Own _ _ _ _ _ (_ ++ [[.slice A6 (r.vs.map clean).length c6]]); rw [List.length_map]; exact hown7) hgr7); have hb3 := ((HB.out.fut (w' := w6)).alloc (.cells #[.slice A6 r.vs.length c6] 54)).grown hgr7 (HOW.out.ne_ ((HB.out.fut (w' := w6)).alloc (.cells #[.slice A6 r.vs.length c6] 54)) (by decide)); have hs7 : Step w w7 := ⟨(fut w (w6.alloc (.cells #[.slice A6 r.vs.length c6] 54))).trans hbel7⟩; clear k3 lc3; have k3 := At.z1 hb3.at0; have f3 := hb3.free; have lc3 := hb3.lt; have HD3 := hide hb3; clear hown7 hgr7 hbel7 hb3)
          refine hK.out _ _ (by (try dsimp only); (exact ⟨hs7, trivial⟩)) (fun hHeld => ?_)
          clear hK K
          (try simp only [Act.put, List.setIfInBounds_toArray, List.set_cons_zero, List.set_cons_succ])
          refine wpAnyH_ready (rs := [5]) (by kernel_rfl) (by simp) ?_
          refine AllReadyH.cons (o := ⟨none, _, _, _, _, _⟩) rfl (fun K hK => ?_) AllReadyH.nil
          go_simp
          refine hK.out _ _ (by (try dsimp only); (exact ⟨⟨(fut w w7).setCell NG.le _⟩, trivial⟩)) (fun hHeld => ?_)
          clear hK K
          (try simp only [Act.put, List.setIfInBounds_toArray, List.set_cons_zero, List.set_cons_succ])
          refine wpAnyH_done (by kernel_rfl) ?_ _
          go_wp2_with fail
          go_roundw
          case rel =>
            refine ⟨k + 1, A7, c7, ps ++ [⟨A6, c6, r.vs.map clean⟩], by omega, by go_num, HD3.out.set_ 0 _, HR7.out.grownP HD3.out (grown_setCell w7 gp 0 _), ?_, ?_, ⟨(fut w w7).setCell NG.le _⟩⟩
            · show _ = _; rw [HTK.out, List.map_append, HPS.out]; rfl
            · show _ = _; rw [List.length_append, HLN.out]; rfl
          case measure => simp [intOf]; omega
        · obtain ⟨hS1, hS2⟩ := hHeld
          go_simp
          (go_at_call 39; (with_reducible refine (PC.out _).mono ?_); rintro e w6 ⟨A6, c6, rfl, ho6, hs6⟩; have HO6 := hide (ho6.more (base' := w.heap.size) (by first | exact hzX | exact (fut w X).size)); clear ho6 k3 lc3; have k_ := HB.out.fut (w' := w6); have k3 := At.z1 k_.at0; have lc3 := k_.lt; clear k_)
          refine hK.out _ _ (by (try dsimp only); (exact ⟨Step.of, trivial⟩)) (fun hHeld => ?_)
          clear hK K
          (try simp only [Act.put, List.setIfInBounds_toArray, List.set_cons_zero, List.set_cons_succ])
          refine wpAnyH_ready (rs := [0, 3]) (by kernel_rfl) (by simp) ?_
          refine AllReadyH.cons (o := ⟨some 15, _, _, _, _, _⟩) rfl (fun K hK => ?_) (AllReadyH.cons (o := ⟨some 18, _, _, _, _, _⟩) rfl (fun K hK => ?_) AllReadyH.nil)
          · go_simp
            refine hK.out _ _ (by (try dsimp only); (exact ⟨Step.of, trivial⟩)) (fun hHeld => ?_)
            clear hK K
            (try simp only [Act.put, List.setIfInBounds_toArray, List.set_cons_zero, List.set_cons_succ])
            refine wpAnyH_ready (rs := [3]) (by kernel_rfl) (by simp) ?_
            refine AllReadyH.cons (o := ⟨some 18, _, _, _, _, _⟩) rfl (fun K hK => ?_) AllReadyH.nil
            go_simp
            refine hK.out _ _ (by (try dsimp only); (exact ⟨Step.of, trivial⟩)) (fun hHeld => ?_)
            clear hK K
            (try simp only [Act.put, List.setIfInBounds_toArray, List.set_cons_zero, List.set_cons_succ])
            refine wpAnyH_ready (rs := [4]) (by kernel_rfl) (by simp) ?_
            refine AllReadyH.cons (o := ⟨some 19, _, _, _, _, _⟩) rfl (fun K hK => ?_) AllReadyH.nil
            (have HOW := hide ((HO.out.out.fut (w' := w6)).alloc (.cells #[.slice A6 r.vs.length c6] 54)); have HNew := hide (SlAt.one w6 1 [.slice A6 r.vs.length c6] 54); refine step_append_sl rfl (.tmp 15) (.tmp 18) 90 rfl eiPile (base := w.heap.size) (xs := ps.map RowA.cells) rfl HOW.out (rows_fit _) (ys := [[.slice A6 r.vs.length c6]]) rfl (by simp) HNew.out (slice_fit A6 r.vs.length c6) (by rw [List.length_map, HLN.out]; show (k + 1) * 24 ≤ _; omega) (fut w (w6.alloc (.cells #[.slice A6 r.vs.length c6] 54))).size (N := k + 1) (by rw [List.length_map, HLN.out]; rfl) ?_; intro A7 c7 w7 hq1 hq2 hown7 hgr7 hbel7; have HR7 := hide (OwnR.app (r := ⟨A6, c6, r.vs.map clean⟩) (OwnR.fut (w' := w6.alloc (.cells #[.slice A6 r.vs.length c6] 54)) HO.out) (by have q := HO6.out.alloc (.cells #[.slice A6 r.vs.length c6] 54); show Own _ _ _ _ (.slice A6 (r.vs.map clean).length c6) _; rw [List.length_map]; exact q) (by show Own _ _ _ _ _ (_ ++ [[.slice A6 (r.vs.map clean).length c6]]); rw [List.length_map]; exact hown7) hgr7); have hb3 := ((HB.out.fut (w' := w6)).alloc (.cells #[.slice A6 r.vs.length c6] 54)).grown hgr7 (HOW.out.ne_ ((HB.out.fut (w' := w6)).alloc (.cells #[.slice A6 r.vs.length c6] 54)) (by decide)); have hs7 : Step w w7 := ⟨(fut w (w6.alloc (.cells #[.slice A6 r.vs.length c6] 54))).trans hbel7⟩; clear k3 lc3; have k3 := At.z1 hb3.at0; have f3 := hb3.free; have lc3 := hb3.lt; have HD3 := hide hb3; clear hown7 hgr7 hbel7 hb3)
            refine hK.out _ _ (by (try dsimp only); (exact ⟨hs7, trivial⟩)) (fun hHeld => ?_)
            clear hK K
            (try simp only [Act.put, List.setIfInBounds_toArray, List.set_cons_zero, List.set_cons_succ])
            refine wpAnyH_ready (rs := [5]) (by kernel_rfl) (by simp) ?_
            refine AllReadyH.cons (o := ⟨none, _, _, _, _, _⟩) rfl (fun K hK => ?_) AllReadyH.nil
            go_simp
            refine hK.out _ _ (by (try dsimp only); (exact ⟨⟨(fut w w7).setCell NG.le _⟩, trivial⟩)) (fun hHeld => ?_)
            clear hK K
            (try simp only [Act.put, List.setIfInBounds_toArray, List.set_cons_zero, List.set_cons_succ])
            refine wpAnyH_done (by kernel_rfl) ?_ _
            go_wp2_with fail
            go_roundw
            case rel =>
              refine ⟨k + 1, A7, c7, ps ++ [⟨A6, c6, r.vs.map clean⟩], by omega, by go_num, HD3.out.set_ 0 _, HR7.out.grownP HD3.out (grown_setCell w7 gp 0 _), ?_, ?_, ⟨(fut w w7).setCell NG.le _⟩⟩
              · show _ = _; rw [HTK.out, List.map_append, HPS.out]; rfl
              · show _ = _; rw [List.length_append, HLN.out]; rfl
            case measure => simp [intOf]; omega
          · go_simp
            refine hK.out _ _ (by (try dsimp only); (exact ⟨Step.of, trivial⟩)) (fun hHeld => ?_)
            clear hK K
            (try simp only [Act.put, List.setIfInBounds_toArray, List.set_cons_zero, List.set_cons_succ])
            refine wpAnyH_ready (rs := [0]) (by kernel_rfl) (by simp) ?_
            refine AllReadyH.cons (o := ⟨some 15, _, _, _, _, _⟩) rfl (fun K hK => ?_) AllReadyH.nil
            go_simp
            refine hK.out _ _ (by (try dsimp only); (exact ⟨Step.of, trivial⟩)) (fun hHeld => ?_)
            clear hK K
            (try simp only [Act.put, List.setIfInBounds_toArray, List.set_cons_zero, List.set_cons_succ])
            refine wpAnyH_ready (rs := [4]) (by kernel_rfl) (by simp) ?_
            refine AllReadyH.cons (o := ⟨some 19, _, _, _, _, _⟩) rfl (fun K hK => ?_) AllReadyH.nil
            (have HOW := hide ((HO.out.out.fut (w' := w6)).alloc (.cells #[.slice A6 r.vs.length c6] 54)); have HNew := hide (SlAt.one w6 1 [.slice A6 r.vs.length c6] 54); refine step_append_sl rfl (.tmp 15) (.tmp 18) 90 rfl eiPile (base := w.heap.size) (xs := ps.map RowA.cells) rfl HOW.out (rows_fit _) (ys := [[.slice A6 r.vs.length c6]]) rfl (by simp) HNew.out (slice_fit A6 r.vs.length c6) (by rw [List.length_map, HLN.out]; show (k + 1) * 24 ≤ _; omega) (fut w (w6.alloc (.cells #[.slice A6 r.vs.length c6] 54))).size (N := k + 1) (by rw [List.length_map, HLN.out]; rfl) ?_; intro A7 c7 w7 hq1 hq2 hown7 hgr7 hbel7; have HR7 := hide (OwnR.app (r := ⟨A6, c6, r.vs.map clean⟩) (OwnR.fut (w' := w6.alloc (.cells #[.slice A6 r.vs.length c6] 54)) HO.out) (by have q := HO6.out.alloc (.cells #[.slice A6 r.vs.length c6] 54); show Own _ _ _ _ (.slice A6 (r.vs.map clean).length c6) _; rw [List.length_map]; exact q) (by show Own _ _ _ _ _ (_ ++ [[.slice A6 (r.vs.map clean).length c6]]); rw [List.length_map]; exact hown7) hgr7); have hb3 := ((HB.out.fut (w' := w6)).alloc (.cells #[.slice A6 r.vs.length c6] 54)).grown hgr7 (HOW.out.ne_ ((HB.out.fut (w' := w6)).alloc (.cells #[.slice A6 r.vs.length c6] 54)) (by decide)); have hs7 : Step w w7 := ⟨(fut w (w6.alloc (.cells #[.slice A6 r.vs.length c6] 54))).trans hbel7⟩; clear k3 lc3; have k3 := At.z1 hb3.at0; have f3 := hb3.free; have lc3 := hb3.lt; have HD3 := hide hb3; clear hown7 hgr7 hbel7 hb3)
            refine hK.out _ _ (by (try dsimp only); (exact ⟨hs7, trivial⟩)) (fun hHeld => ?_)
            clear hK K
            (try simp only [Act.put, List.setIfInBounds_toArray, List.set_cons_zero, List.set_cons_succ])
            refine wpAnyH_ready (rs := [5]) (by kernel_rfl) (by simp) ?_
            refine AllReadyH.cons (o := ⟨none, _, _, _, _, _⟩) rfl (fun K hK => ?_) AllReadyH.nil
            go_simp
            refine hK.out _ _ (by (try dsimp only); (exact ⟨⟨(fut w w7).setCell NG.le _⟩, trivial⟩)) (fun hHeld => ?_)
            clear hK K
            (try simp only [Act.put, List.setIfInBounds_toArray, List.set_cons_zero, List.set_cons_succ])
            refine wpAnyH_done (by kernel_rfl) ?_ _
            go_wp2_with fail
            go_roundw
            case rel =>
              refine ⟨k + 1, A7, c7, ps ++ [⟨A6, c6, r.vs.map clean⟩], by omega, by go_num, HD3.out.set_ 0 _, HR7.out.grownP HD3.out (grown_setCell w7 gp 0 _), ?_, ?_, ⟨(fut w w7).setCell NG.le _⟩⟩
              · show _ = _; rw [HTK.out, List.map_append, HPS.out]; rfl
              · show _ = _; rw [List.length_append, HLN.out]; rfl
            case measure => simp [intOf]; omega
    · obtain rfl : k = rs.length := by omega
      have hps : ps.map RowA.vs = rs.map fun r => cleanL r.vs := by have h_ := HPS.out; rw [List.take_length] at h_; exact h_
      have HPM := hide hps
      have hfine : ∀ r ∈ ps, FineR r := by
        intro r hr_
        have h1 : r.vs ∈ rs.map fun r => cleanL r.vs := by rw [← hps]; exact List.mem_map.2 ⟨r, hr_, rfl⟩
        obtain ⟨r', hr', e⟩ := List.mem_map.1 h1
        have q := hr.rows r' hr'
        refine ⟨by rw [← e]; simp only [cleanL, List.length_map]; exact q.hcapm, fun v hv => ?_⟩
        rw [← e] at hv
        obtain ⟨u, hu, rfl⟩ := List.mem_map.1 hv
        exact clean_fine (q.strs u hu)
      have HFN := hide hfine
      obtain ⟨N, hN⟩ : ∃ N, rs.length = N := ⟨_, rfl⟩
      have HNR := hide hN
      rw [hN] at HLN HO HB0 hrm
      rw [hN]
      have PIN := hide (pinit_any (w0 := w) gp N c' A' ps wo HLN.out hrm HO.out HB0.out hfine)
      clear hps hfine
      go_wp2_with (go_at_call 44; (with_reducible refine PIN.out.mono ?_); rintro e w1 ⟨rfl, l0, hl1, hp1, hh1, ho1, hb1, _, hs1⟩; have HL1 := hide hl1; have HP1 := hide hp1; have HH1 := hide hh1; have HO1 := hide ho1; have HB1 := hide hb1; clear hl1 hp1 hh1 ho1 hb1)
      obtain ⟨B2, hB2⟩ : ∃ B2, w1.heap.size = B2 := ⟨_, rfl⟩
      have hAB : ∀ q, (Value.slice A' N c').ownBlock = some q → q < B2 := fun q hq => by rw [← hB2]; exact (HO1.out.out.lt q hq).2
      have hgB : gp < B2 := by rw [← hB2]; exact HB1.out.lt
      have hwB : w.heap.size ≤ B2 := by rw [← hB2]; exact (fut w w1).size
      have HAB := hide hAB
      clear hAB
      go_loopw [6, 7, 8] (fun out _ _ wr => ∃ (m j : Nat) (ls os : List RowA) (Ao : Option Addr) (co : Nat), m + j = N ∧ out = .slice Ao j co ∧ Hid (ls.length = m) ∧ Hid (os.length = j) ∧ Taken ltA l0 os ls ∧ HeapFrom ltA ls m 0 ∧ OwnR wr w.heap.size A' m c' ls ∧ Blk wr gp 90 [.slice A' m c'] ∧ Own wr B2 54 1 (.slice Ao j co) (os.map RowA.cells) ∧ (∀ r ∈ os, Own wr w.heap.size 57 4 (.slice r.A r.vs.length r.cap) (r.vs.map Val.cells)) ∧ B2 ≤ wr.heap.size ∧ Step w wr) (fun out _ _ _ => N - lenV out)
      case atStart => exact ⟨N, 0, l0, [], none, 0, by omega, rfl, HL1.out, rfl, taken_nil, HH1.out, HO1.out, HB1.out, Own.nil_ _ _ _ _, fun r h => by simp at h, by omega, hs1⟩
      case round =>
        obtain ⟨m, j, ls, os, Ao, co, hmj, rfl, HLL, HOL, htk, hhf, how, hbp, hout, hrows, hsz, hst2⟩ := hrel
        have HTK := hide htk; have HHF := hide hhf; have HOW := hide how; have HBP := hide hbp; have HQ := hide hout; have HRW := hide hrows
        clear htk hhf how hbp hout hrows HO1 HB1
        obtain ⟨wi, hwi⟩ : ∃ x : World, x = wr := ⟨_, rfl⟩
        rw [← hwi] at HOW HBP HQ HRW hst2 hsz
        rw [← hwi]
        clear hwi
        have hzi := hst2.size
        have p0 := At.z1 HBP.out.at0
        have lp0 := HBP.out.lt
        rcases Nat.eq_zero_or_pos m with e | e
        · subst e
          have hjN : j = N := by omega
          go_wp2_with (go_at_call 45; refine (plen_any A' 0 c' _).mono ?_; rintro e w_ ⟨rfl, rfl⟩)
          go_ret
          have hls : ls = [] := List.eq_nil_of_length_eq_zero HLL.out
          have hpm : os.Perm l0 := by have h_ := HTK.out.perm; rw [hls, List.append_nil] at h_; exact h_
          have hjr : rs.length = j := by rw [HNR.out, hjN]
          exact ⟨Ao, co, os, by rw [HNR.out]; rfl, by rw [HOL.out, hjr], asc_map HTK.out.asc, by rw [← HPM.out]; exact (hpm.trans HP1.out).map RowA.vs, ⟨by rw [hjr]; exact HQ.out.more hwB, HRW.out⟩, Step.of⟩
        · obtain ⟨n, rfl⟩ : ∃ n, m = n + 1 := ⟨m - 1, by omega⟩
          have hfl : ∀ r ∈ ls, FineR r := fun r hr_ => HFN.out r (HP1.out.mem_iff.1 (HTK.out.perm.mem_iff.1 (List.mem_append.2 (.inr hr_))))
          have PHP := hide (phpop_any (w0 := w) gp n c' A' ls wi HLL.out (by omega) NG.le HOW.out HBP.out HHF.out hfl)
          clear hfl
          have hta := run_assert
          go_upto_region 11 with (first
            | (go_at_call 45; refine (plen_any A' (n + 1) c' _).mono ?_; rintro e w_ ⟨rfl, rfl⟩)
            | (go_at_call 46; (with_reducible refine PHP.out.mono ?_); rintro e w5 ⟨x, l5, rfl, hl5, hp5, hm5, hh5, ho5, hx5, hb5, hon5, hs5⟩; have HL5 := hide hl5; have HP5 := hide hp5; have HM5 := hide hm5; have HH5 := hide hh5; have HO5 := hide ho5; have HX5 := hide hx5; have HB5 := hide hb5; have HON5 := hide hon5; clear hl5 hp5 hm5 hh5 ho5 hx5 hb5 hon5; unfold RowA.sl))
          have hz5 := HON5.out.size
          have HQ5 := hide (HQ.out.only HON5.out (fun q hq => by
            have h1 := (HQ.out.lt q hq).1
            refine ⟨by omega, fun e => ?_⟩
            have h2 := HAB.out q (by rw [ownBlock_any (n' := n + 1) (c' := c'), ← e])
            omega))
          have HRW5 : Hid (∀ r ∈ os, Own w5 w.heap.size 57 4 (.slice r.A r.vs.length r.cap) (r.vs.map Val.cells)) := fun r hr_ => (HRW.out r hr_).only HON5.out (fun q hq => by
            refine ⟨fun e => (HRW.out r hr_).ne_ HBP.out (by decide) (by rw [hq, e]), fun e => own_ne (HRW.out r hr_) HOW.out.out (by decide) q hq e.symm⟩)
          obtain ⟨X2, hX2⟩ : ∃ X2, X2 = (w5.alloc (.cells #[.slice x.A x.vs.length x.cap] 54)).alloc (.cells #[.slice x.A x.vs.length x.cap] 54) := ⟨_, rfl⟩
          have hX2s : B2 ≤ X2.heap.size := by rw [hX2]; simp; omega
          have SX2 : Step w5 X2 := by rw [hX2]; exact Step.of
          have HNew : Hid (SlAt X2 X2.heap.size 1 (some ⟨w5.heap.size + 1, 0, none⟩) [[.slice x.A x.vs.length x.cap]]) := by
            have h_ := SlAt.one (w5.alloc (.cells #[.slice x.A x.vs.length x.cap] 54)) 1 [.slice x.A x.vs.length x.cap] 54
            show SlAt _ _ _ _ _
            rw [hX2]
            simpa using h_
          have HX2 := hide hX2
          clear hX2
          go_wp2_with (at_builtin; rw [← HX2.out]; go_loud (refine wpList_append_sl rfl (.tmp 32) (.tmp 34) 28 rfl eiRow (base := B2) (xs := os.map RowA.cells) rfl (HQ5.out.fut (w' := X2)) (rows_fit _) (ys := [[.slice x.A x.vs.length x.cap]]) rfl (by simp) HNew.out (slice_fit x.A x.vs.length x.cap) (by rw [List.length_map, HOL.out]; show (j + 1) * 24 ≤ _; omega) hX2s (N := j + 1) (by rw [List.length_map, HOL.out]; rfl) ?_; intro A8 c8 w8 hq1 hq2 hown8 hgr8 hbel8; have H8 := hide hown8; have HG8 := hide hgr8; have HB8 := hide hbel8; clear hown8 hgr8 hbel8))
          have hs8 : Step w w8 := ⟨(fut w X2).trans (HB8.out.mono hwB)⟩
          have HQX := hide (HQ5.out.fut (w' := X2))
          go_roundw
          case rel =>
            refine ⟨n, j + 1, l5, os ++ [x], A8, c8, by omega, rfl, HL5.out, by show _ = _; rw [List.length_append, HOL.out]; rfl, HTK.out.pop HP5.out HM5.out, HH5.out, (OwnR.fut (w' := X2) HO5.out).grownQ HQX.out (fun q hq => HAB.out q (by rw [ownBlock_any (n' := n) (c' := c')]; exact hq)) HG8.out, (HB5.out.fut (w' := X2)).grown HG8.out (HQX.out.ne_ (HB5.out.fut (w' := X2)) (by decide)), by rw [List.map_append]; exact H8.out, fun r hr_ => ?_, Nat.le_trans hX2s HB8.out.size, hs8⟩
            rcases List.mem_append.1 hr_ with h | h
            · have q := (HRW5.out r h).fut (w' := X2)
              exact q.grown_other HG8.out (own_ne q HQX.out (by decide))
            · simp at h
              subst h
              have q := HX5.out.fut (w' := X2)
              exact q.grown_other HG8.out (own_ne q HQX.out (by decide))
          case measure => simp [lenV]; omega
end Go.Proofs.YtafgfehjdbomfaaDoor
