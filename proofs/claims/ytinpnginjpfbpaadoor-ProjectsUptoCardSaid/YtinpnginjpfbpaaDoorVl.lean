/-
  The document's Pick: some columns of rows.
-/
import Derived.Test.YtinpnginjpfbpaaDoorVk
namespace Go.Proofs.YtinpnginjpfbpaaDoor
open Go.RowKit

set_option maxRecDepth 100000 in
set_option maxHeartbeats 16000000 in
theorem rpick_any {w0 w1 w2 : World} (s : Sch) (As : Option Addr) (cs : Nat) (rs : List RowA) (Ar : Option Addr) (cr : Nat) (names : List ByteArray) (An : Option Addr) (cn : Nat) (w : World) (hs : SchIn w0 s As cs) (hr : RowsIn w1 rs Ar cr) (hn : SlAt w2 w2.heap.size 1 An (strCells names)) [f0 : Fut w0 w] [f1 : Fut w1 w] [f2 : Fut w2 w] (hnl : (names.length + 1) * 40 ≤ 140737488355328) :
    Calls Tryd.prog 9 #[.agg #[.int .i64 s.id, .slice As s.cols.length cs, .int .i64 s.next], .slice Ar rs.length cr, .slice An names.length cn] w fun e w' => ∃ (A' : Option Addr) (c' : Nat) (os : List RowA), os.map RowA.vs = (pickR s (rs.map RowA.vs) names).1 ∧ e = .returned (.tuple #[.slice A' os.length c', .int .i64 (pickR s (rs.map RowA.vs) names).2]) ∧ OwnR w' w.heap.size A' os.length c' os ∧ Step w w' := by
  have z0 := f0.below.size; have z1 := f1.below.size; have z2 := f2.below.size
  have hrc := hr.hcap; have hrm := hr.hcapm; have hcl := hs.len
  obtain ⟨T, hT⟩ : ∃ T, pickR s (rs.map RowA.vs) names = T := ⟨_, rfl⟩
  have HT : Hid ((if mayB s = true ∧ namesOk s names = true ∧ widthOk s (rs.map RowA.vs) = true then ((rs.map RowA.vs).map (pickRow (pickFr s.cols names)), 0) else ([], 1400)) = T) := by show _ = _; rw [← pickR_eq]; exact hT
  rw [hT]
  clear hT
  obtain ⟨W, hW⟩ : ∃ W, W = w.alloc (.cells #[.int .i64 s.id, .slice As s.cols.length cs, .int .i64 s.next] 24) := ⟨_, rfl⟩
  have SW : Step w W := by rw [hW]; exact Step.of
  have HSW : Hid (Blk W w.heap.size 24 [.int .i64 s.id, .slice As s.cols.length cs, .int .i64 s.next]) := by rw [hW]; exact Blk.new w [.int .i64 s.id, .slice As s.cols.length cs, .int .i64 s.next] 24
  have HW := hide hW
  have hzW := SW.size
  clear hW
  have pm := fun w' [Fut w0 w'] => rmay_any s As cs w' hs
  unfold Sch.val at pm
  cases hmb : mayB s with
  | false =>
    have hE : Hid (T = ([], 1400)) := by show _ = _; rw [← HT.out, if_neg (by rw [hmb]; simp)]
    rw [hmb] at pm
    have PM := hide pm
    clear pm hmb
    go_enter Tryd.func9, Tryd.ntmps9
    go_wp2_with (go_at_call 23; (with_reducible refine (PM.out _).mono ?_); rintro e w3 ⟨rfl, hs3⟩)
    go_ret2
    exact ⟨none, 0, [], by rw [hE.out]; rfl, by rw [hE.out]; rfl, ⟨Own.nil_ _ _ _ _, fun r h => by simp at h⟩, Step.of⟩
  | true =>
    have HMB := hide hmb
    rw [hmb] at pm
    have PM := hide pm
    clear pm hmb
    go_enter Tryd.func9, Tryd.ntmps9
    go_wp2_with (go_at_call 23; (with_reducible refine (PM.out _).mono ?_); rintro e w3 ⟨rfl, hs3⟩; rw [← HW.out] at hs3)
    have hz3 := hs3.size
    go_loopw [8] (fun i wr => ∃ k : Nat, k ≤ rs.length ∧ i = .int .i64 k ∧ Hid (widthOk s ((rs.map RowA.vs).take k) = true) ∧ Step w3 wr) (fun i _ => rs.length - (intOf i).toNat)
    case atStart => exact ⟨0, Nat.zero_le _, rfl, rfl, Step.of⟩
    case round =>
      obtain ⟨k, hk, rfl, HWK, hst⟩ := hrel
      obtain ⟨wo, rfl⟩ : ∃ x : World, x = wr := ⟨_, rfl⟩
      have hzo := hst.size
      by_cases hlt : k < rs.length
      · obtain ⟨b2, off2, hA2, hb2, r, hrk, hri, q5⟩ := hr.row (w' := wo) inferInstance (k := k) hlt
        have hvk : (rs.map RowA.vs)[k]? = some r.vs := by simp [hrk]
        have hcapr := hri.hcap; have hcapmr := hri.hcapm
        have hkl : (k : Int) < (rs.length : Int) := by omega
        have hk0 : (0 : Int) ≤ (k : Int) := by omega
        have hlb2 : b2 < wo.heap.size := by omega
        obtain ⟨q0, q1, q2⟩ := At.z3 (HSW.out.fut (w' := wo)).at0; have lq := (HSW.out.fut (w' := wo)).lt
        have HVK := hide hvk
        rw [hA2]
        clear hrk hvk hA2 hri
        by_cases hww : r.vs.length = s.cols.length
        · have hwb : ((r.vs.length : Int) != (s.cols.length : Int)) = false := by rw [hww]; simp
          have HW2 : Hid (widthOk s ((rs.map RowA.vs).take (k + 1)) = true) := by show _ = _; exact all_take_succ HVK.out HWK.out (by simpa using hww)
          clear hww
          go_wp2_with fail
          go_quiet (fail)
          go_wp2_with fail
          go_roundw
          case rel => exact ⟨k + 1, by omega, by go_num, HW2.out, Step.of⟩
          case measure => simp [intOf]; omega
        · have hwb : ((r.vs.length : Int) != (s.cols.length : Int)) = true := by simp; omega
          have hE : Hid (T = ([], 1400)) := by
            show _ = _
            rw [← HT.out, if_neg]
            intro hh
            rw [widthOk, all_bad HVK.out (by simpa using hww)] at hh
            cases hh.2.2
          clear hww
          go_wp2_with fail
          go_quiet (fail)
          go_wp2_with fail
          go_ret2
          exact ⟨none, 0, [], by rw [hE.out]; rfl, by rw [hE.out]; rfl, ⟨Own.nil_ _ _ _ _, fun r h => by simp at h⟩, Step.of⟩
      · obtain rfl : k = rs.length := by omega
        rw [List.take_of_length_le (by simp)] at HWK
        go_wp2_with fail
        obtain ⟨X, hX⟩ : ∃ x : World, x = wo := ⟨_, rfl⟩
        rw [← hX] at hst hzo
        rw [← hX]
        clear hX
        go_loopw [9] (fun i wr => ∃ n : Nat, n ≤ names.length ∧ i = .int .i64 n ∧ Hid (namesOk s (names.take n) = true) ∧ Step X wr) (fun i _ => names.length - (intOf i).toNat)
        case atStart => exact ⟨0, Nat.zero_le _, rfl, rfl, Step.of⟩
        case round =>
          obtain ⟨n, hn1, rfl, HOK, hst2⟩ := hrel
          obtain ⟨wo, rfl⟩ : ∃ x : World, x = wr := ⟨_, rfl⟩
          have hzo2 := hst2.size
          by_cases hlt : n < names.length
          · obtain ⟨b, off, hA, hb, hc⟩ := hn.elem (w' := wo) inferInstance (k := n) (by simp [strCells]; omega)
            rw [hA]
            obtain ⟨nm, hnm⟩ : ∃ nm, names[n]? = some nm := ⟨_, List.getElem?_eq_getElem hlt⟩
            have n0 := At.l1 (hc n [.string nm] (by simp [strCells, hnm]))
            simp only [Nat.mul_one] at n0
            have hlb : b < wo.heap.size := by omega
            have hkl : (n : Int) < (names.length : Int) := by omega
            have hk0 : (0 : Int) ≤ (n : Int) := by omega
            obtain ⟨q0, q1, q2⟩ := At.z3 (HSW.out.fut (w' := wo)).at0; have lq := (HSW.out.fut (w' := wo)).lt
            have HNM := hide hnm
            have pf := fun w' [Fut w0 w'] => rfind_any s As cs nm w' hs
            unfold Sch.val at pf
            have hbd := idx_bd (named nm) s.cols
            obtain ⟨at_, hat⟩ : ∃ at_, idx (named nm) s.cols = at_ := ⟨_, rfl⟩
            rw [hat] at pf hbd
            have HAT := hide hat
            have PF := hide pf
            clear hc hnm hA pf hat
            by_cases hneg : at_ < 0
            · have hE : Hid (T = ([], 1400)) := by
                show _ = _
                rw [← HT.out, if_neg]
                intro hh
                rw [namesOk, all_bad HNM.out (by rw [HAT.out]; simp; omega)] at hh
                cases hh.2.1
              go_upto_region 11 with (fail)
              refine wp_region_held_drew (S := (fun w' => Step wo w' ∧ (∀ b o, b < wo.heap.size → w'.cell? ⟨b, o, none⟩ = wo.cell? ⟨b, o, none⟩))) (by kernel_rfl) (by (try dsimp only); (first | exact ⟨hS1, hS2⟩ | exact ⟨Step.of, (bcell (fut _ _)).1⟩)) (fun hHeld => ?_)
              refine wpAnyH_take (i := 0) (oi := ⟨some 39, _, _, _, _, _⟩) (v := ?_) rfl (by kernel_rfl) (by kernel_rfl) (by kernel_rfl) (fun _ _ _ h => h) (Or.inl ⟨by rfl, ?_⟩) (by assumption) ?_
              rotate_left
              · ((intro w hSw); (try dsimp only at hSw); go_simp; (try with_reducible rfl))
              (try simp only [Act.put, List.setIfInBounds_toArray, List.set_cons_zero, List.set_cons_succ])
              refine wpAnyH_take (i := 1) (oi := ⟨some 40, _, _, _, _, _⟩) (v := ?_) rfl (by kernel_rfl) (by kernel_rfl) (by kernel_rfl) (fun _ _ _ h => h) (Or.inl ⟨by rfl, ?_⟩) (by assumption) ?_
              rotate_left
              · ((intro w hSw); (try dsimp only at hSw); go_simp; (try with_reducible rfl))
              (try simp only [Act.put, List.setIfInBounds_toArray, List.set_cons_zero, List.set_cons_succ])
              refine wpAnyH_take (i := 2) (oi := ⟨some 41, _, _, _, _, _⟩) (v := ?_) rfl (by kernel_rfl) (by kernel_rfl) (by kernel_rfl) (fun _ _ _ h => h) (Or.inl ⟨by rfl, ?_⟩) (by assumption) ?_
              rotate_left
              · ((intro w hSw); (try dsimp only at hSw); go_simp; (try with_reducible rfl))
              (try simp only [Act.put, List.setIfInBounds_toArray, List.set_cons_zero, List.set_cons_succ])
              refine wpAnyH_take (i := 3) (oi := ⟨some 42, _, _, _, _, _⟩) (v := ?_) rfl (by kernel_rfl) (by kernel_rfl) (by kernel_rfl) (fun _ _ _ h => h) (Or.inl ⟨by rfl, ?_⟩) (by assumption) ?_
              rotate_left
              · ((intro w hSw); (try dsimp only at hSw); go_simp; (try with_reducible rfl))
              (try simp only [Act.put, List.setIfInBounds_toArray, List.set_cons_zero, List.set_cons_succ])
              refine wpAnyH_take (i := 4) (oi := ⟨some 43, _, _, _, _, _⟩) (v := ?_) rfl (by kernel_rfl) (by kernel_rfl) (by kernel_rfl) (fun _ _ _ h => h) (Or.inl ⟨by rfl, ?_⟩) (by assumption) ?_
              rotate_left
              · ((intro w hSw); (try dsimp only at hSw); go_simp; (try with_reducible rfl))
              (try simp only [Act.put, List.setIfInBounds_toArray, List.set_cons_zero, List.set_cons_succ])
              refine wpAnyH_ready (rs := [5]) (by kernel_rfl) (by simp) ?_
              refine AllReadyH.cons (o := ⟨some 44, _, _, _, _, _⟩) rfl (fun K hK => ?_) AllReadyH.nil
              obtain ⟨hS1, hS2⟩ := hHeld
              go_simp
              (go_at_call 27; (with_reducible refine (PF.out _).mono ?_); rintro e w5 ⟨rfl, hs5⟩)
              refine hK.out _ _ (by (try dsimp only); (first | exact ⟨hS1, hS2⟩ | exact ⟨Step.of, (bcell (fut _ _)).1⟩)) (fun hHeld => ?_)
              clear hK K
              (try simp only [Act.put, List.setIfInBounds_toArray, List.set_cons_zero, List.set_cons_succ])
              refine wpAnyH_take (i := 6) (oi := ⟨some 45, _, _, _, _, _⟩) (v := ?_) rfl (by kernel_rfl) (by kernel_rfl) (by kernel_rfl) (fun _ _ _ h => h) (Or.inl ⟨by rfl, ?_⟩) (by assumption) ?_
              rotate_left
              · ((intro w hSw); (try dsimp only at hSw); go_simp; (try with_reducible rfl))
              (try simp only [Act.put, List.setIfInBounds_toArray, List.set_cons_zero, List.set_cons_succ])
              refine wpAnyH_done (by kernel_rfl) ?_ _
              go_wp2_with fail
              go_ret2
              exact ⟨none, 0, [], by rw [hE.out]; rfl, by rw [hE.out]; rfl, ⟨Own.nil_ _ _ _ _, fun r h => by simp at h⟩, Step.of⟩
            · have hnb : decide (at_ < 0) = false := by simp; omega
              have HOK2 : Hid (namesOk s (names.take (n + 1)) = true) := by show _ = _; exact all_take_succ HNM.out HOK.out (by rw [HAT.out]; simp; omega)
              go_upto_region 11 with (fail)
              refine wp_region_held_drew (S := (fun w' => Step wo w' ∧ (∀ b o, b < wo.heap.size → w'.cell? ⟨b, o, none⟩ = wo.cell? ⟨b, o, none⟩))) (by kernel_rfl) (by (try dsimp only); (first | exact ⟨hS1, hS2⟩ | exact ⟨Step.of, (bcell (fut _ _)).1⟩)) (fun hHeld => ?_)
              refine wpAnyH_take (i := 0) (oi := ⟨some 39, _, _, _, _, _⟩) (v := ?_) rfl (by kernel_rfl) (by kernel_rfl) (by kernel_rfl) (fun _ _ _ h => h) (Or.inl ⟨by rfl, ?_⟩) (by assumption) ?_
              rotate_left
              · ((intro w hSw); (try dsimp only at hSw); go_simp; (try with_reducible rfl))
              (try simp only [Act.put, List.setIfInBounds_toArray, List.set_cons_zero, List.set_cons_succ])
              refine wpAnyH_take (i := 1) (oi := ⟨some 40, _, _, _, _, _⟩) (v := ?_) rfl (by kernel_rfl) (by kernel_rfl) (by kernel_rfl) (fun _ _ _ h => h) (Or.inl ⟨by rfl, ?_⟩) (by assumption) ?_
              rotate_left
              · ((intro w hSw); (try dsimp only at hSw); go_simp; (try with_reducible rfl))
              (try simp only [Act.put, List.setIfInBounds_toArray, List.set_cons_zero, List.set_cons_succ])
              refine wpAnyH_take (i := 2) (oi := ⟨some 41, _, _, _, _, _⟩) (v := ?_) rfl (by kernel_rfl) (by kernel_rfl) (by kernel_rfl) (fun _ _ _ h => h) (Or.inl ⟨by rfl, ?_⟩) (by assumption) ?_
              rotate_left
              · ((intro w hSw); (try dsimp only at hSw); go_simp; (try with_reducible rfl))
              (try simp only [Act.put, List.setIfInBounds_toArray, List.set_cons_zero, List.set_cons_succ])
              refine wpAnyH_take (i := 3) (oi := ⟨some 42, _, _, _, _, _⟩) (v := ?_) rfl (by kernel_rfl) (by kernel_rfl) (by kernel_rfl) (fun _ _ _ h => h) (Or.inl ⟨by rfl, ?_⟩) (by assumption) ?_
              rotate_left
              · ((intro w hSw); (try dsimp only at hSw); go_simp; (try with_reducible rfl))
              (try simp only [Act.put, List.setIfInBounds_toArray, List.set_cons_zero, List.set_cons_succ])
              refine wpAnyH_take (i := 4) (oi := ⟨some 43, _, _, _, _, _⟩) (v := ?_) rfl (by kernel_rfl) (by kernel_rfl) (by kernel_rfl) (fun _ _ _ h => h) (Or.inl ⟨by rfl, ?_⟩) (by assumption) ?_
              rotate_left
              · ((intro w hSw); (try dsimp only at hSw); go_simp; (try with_reducible rfl))
              (try simp only [Act.put, List.setIfInBounds_toArray, List.set_cons_zero, List.set_cons_succ])
              refine wpAnyH_ready (rs := [5]) (by kernel_rfl) (by simp) ?_
              refine AllReadyH.cons (o := ⟨some 44, _, _, _, _, _⟩) rfl (fun K hK => ?_) AllReadyH.nil
              obtain ⟨hS1, hS2⟩ := hHeld
              go_simp
              (go_at_call 27; (with_reducible refine (PF.out _).mono ?_); rintro e w5 ⟨rfl, hs5⟩)
              refine hK.out _ _ (by (try dsimp only); (first | exact ⟨hS1, hS2⟩ | exact ⟨Step.of, (bcell (fut _ _)).1⟩)) (fun hHeld => ?_)
              clear hK K
              (try simp only [Act.put, List.setIfInBounds_toArray, List.set_cons_zero, List.set_cons_succ])
              refine wpAnyH_take (i := 6) (oi := ⟨some 45, _, _, _, _, _⟩) (v := ?_) rfl (by kernel_rfl) (by kernel_rfl) (by kernel_rfl) (fun _ _ _ h => h) (Or.inl ⟨by rfl, ?_⟩) (by assumption) ?_
              rotate_left
              · ((intro w hSw); (try dsimp only at hSw); go_simp; (try with_reducible rfl))
              (try simp only [Act.put, List.setIfInBounds_toArray, List.set_cons_zero, List.set_cons_succ])
              refine wpAnyH_done (by kernel_rfl) ?_ _
              go_wp2_with fail
              go_roundw
              case rel => exact ⟨n + 1, by omega, by go_num, HOK2.out, Step.of⟩
              case measure => simp [intOf]; omega
          · obtain rfl : n = names.length := by omega
            rw [List.take_length] at HOK
            obtain ⟨fr, hfr⟩ : ∃ fr, pickFr s.cols names = fr := ⟨_, rfl⟩
            have HRT : Hid (T = ((rs.map RowA.vs).map (pickRow fr), 0)) := by show _ = _; rw [← HT.out, if_pos ⟨HMB.out, HOK.out, HWK.out⟩, hfr]
            have HFR := hide hfr
            clear hfr
            go_wp2_with fail
            obtain ⟨X2, hX2⟩ : ∃ x : World, x = wo := ⟨_, rfl⟩
            rw [← hX2] at hst2 hzo2
            rw [← hX2]
            clear hX2
            have hsX : Step w X2 := Step.of
            have hzX := hsX.size
            go_loopw [10, 11, 12, 13] (fun out i _ _ wr => ∃ (k : Nat) (A2 : Option Addr) (c2 : Nat) (os : List RowA), k ≤ rs.length ∧ i = .int .i64 k ∧ out = .slice A2 k c2 ∧ Hid (os.map RowA.vs = ((rs.map RowA.vs).take k).map (pickRow fr)) ∧ Hid (os.length = k) ∧ OwnR wr X2.heap.size A2 k c2 os ∧ Step X2 wr) (fun _ i _ _ _ => rs.length - (intOf i).toNat)
            case atStart => exact ⟨0, none, 0, [], Nat.zero_le _, rfl, rfl, rfl, rfl, ⟨Own.nil_ _ _ _ _, fun r h => by simp at h⟩, Step.of⟩
            case round =>
              obtain ⟨k, A2, c2, os, hk, rfl, rfl, HOS, HOL, hownr, hst3⟩ := hrel
              have HR2 := hide hownr; clear hownr
              obtain ⟨wo, rfl⟩ : ∃ x : World, x = wr := ⟨_, rfl⟩
              have hzo3 := hst3.size
              by_cases hlt : k < rs.length
              · obtain ⟨r, hrk⟩ : ∃ r, rs[k]? = some r := ⟨_, List.getElem?_eq_getElem hlt⟩
                have hvk : (rs.map RowA.vs)[k]? = some r.vs := by simp [hrk]
                have hvw : r.vs.length = s.cols.length := by
                  have h_ := List.all_eq_true.1 HWK.out r.vs (List.mem_of_getElem? hvk)
                  simpa using h_
                have HTS : Hid (((rs.map RowA.vs).take (k + 1)).map (pickRow fr) = ((rs.map RowA.vs).take k).map (pickRow fr) ++ [pickRow fr r.vs]) := by show _ = _; rw [List.take_add_one, hvk]; simp
                have HRK := hide hrk; have HVW := hide hvw
                have hkl : (k : Int) < (rs.length : Int) := by omega
                have hk0 : (0 : Int) ≤ (k : Int) := by omega
                have HFL : Hid (fr.length = names.length) := by show _ = _; rw [← HFR.out, pickFr_len]
                clear hrk hvk hvw
                go_wp2_with fail
                obtain ⟨g12, hg⟩ : ∃ g, g = wo.heap.size := ⟨_, rfl⟩
                obtain ⟨X6, hX6⟩ : ∃ x : World, x = wo.alloc (.cells #[.slice none 0 0] 48) := ⟨_, rfl⟩
                have HC3 : Hid (Blk X6 g12 48 [.slice none 0 0]) := by rw [hX6, hg]; exact Blk.new wo [.slice none 0 0] 48
                have hz6 : X6.heap.size = g12 + 1 := by rw [hX6, hg]; simp
                have hs6 : Step wo X6 := by rw [hX6]; exact Step.of
                rw [← hX6, ← hg]
                have hg1 : g12 ≤ wo.heap.size := by omega
                have hg2 : wo.heap.size ≤ g12 := by omega
                have HG := hide hg
                clear hg
                go_loopw [13] (fun i wr => ∃ (j : Nat) (A3 : Option Addr) (c3 : Nat), j ≤ names.length ∧ i = .int .i64 j ∧ Blk wr g12 48 [.slice A3 j c3] ∧ Own wr (g12 + 1) 57 4 (.slice A3 j c3) ((pickRow (fr.take j) r.vs).map Val.cells) ∧ g12 + 1 ≤ wr.heap.size ∧ Step wo wr) (fun i _ => names.length - (intOf i).toNat)
                case atStart => exact ⟨0, none, 0, Nat.zero_le _, rfl, HC3.out, Own.nil_ _ _ _ _, by omega, hs6⟩
                case round =>
                  clear HC3 hz6 hs6 hX6
                  obtain ⟨j, A3, c3, hj, rfl, hb3, hown3, hgwi, hst4⟩ := hrel
                  have HO3 := hide hown3; have HC3 := hide hb3
                  clear hown3 hb3
                  obtain ⟨wi, rfl⟩ : ∃ x : World, x = wr := ⟨_, rfl⟩
                  have hzi := hst4.size
                  by_cases hlj : j < names.length
                  · obtain ⟨b8, off8, hA8, hb8, hc8⟩ := hn.elem (w' := wi) inferInstance (k := j) (by simp [strCells]; omega)
                    obtain ⟨nm, hnm⟩ : ∃ nm, names[j]? = some nm := ⟨_, List.getElem?_eq_getElem hlj⟩
                    have n0 := At.l1 (hc8 j [.string nm] (by simp [strCells, hnm]))
                    simp only [Nat.mul_one] at n0
                    obtain ⟨b5, off5, hA5, hb5, r', hrk', hri, q5⟩ := hr.row (w' := wi) inferInstance (k := k) hlt
                    obtain rfl : r = r' := by have h_ := HRK.out; rw [hrk'] at h_; exact (Option.some.inj h_).symm
                    have hge : 0 ≤ idx (named nm) s.cols := by have h_ := List.all_eq_true.1 HOK.out nm (List.mem_of_getElem? hnm); simpa using h_
                    have hbd := idx_bd (named nm) s.cols
                    obtain ⟨a, ha⟩ : ∃ a : Nat, idx (named nm) s.cols = (a : Int) := ⟨_, (Int.toNat_of_nonneg hge).symm⟩
                    have hal : a < r.vs.length := by have := HVW.out; omega
                    obtain ⟨b7, off7, hA7, hb7, hc7⟩ := hri.at_.elem (w' := wi) inferInstance (k := a) (by rw [List.length_map]; exact hal)
                    obtain ⟨v, hv⟩ : ∃ v, r.vs[a]? = some v := ⟨_, List.getElem?_eq_getElem hal⟩
                    obtain ⟨v0, v1, v2, v3⟩ := At.l4 (hc7 a v.cells (by simp [hv]))
                    have hfa : fr[j]? = some (a : Int) := by rw [← HFR.out, pickFr, List.getElem?_map, hnm, ← ha]; rfl
                    have HTK : Hid ((pickRow (fr.take (j + 1)) r.vs).map Val.cells = (pickRow (fr.take j) r.vs).map Val.cells ++ [[.int .i64 (clean v).kind, .int .i64 (clean v).i, .bool (clean v).b, .string (clean v).s]]) := by
                      show _ = _
                      rw [List.take_add_one, hfa, pickRow, pickRow, List.map_append, List.map_append]
                      simp [List.getD_eq_getElem?_getD, hv, Val.cells]
                    have pf := fun w' [Fut w0 w'] => rfind_any s As cs nm w' hs
                    unfold Sch.val at pf
                    rw [ha] at pf
                    have PF := hide pf
                    have CL := fun w' => vclean_any v w'
                    unfold Val.val at CL
                    have CL := hide CL
                    have hjl : (j : Int) < (names.length : Int) := by omega
                    have hj0 : (0 : Int) ≤ (j : Int) := by omega
                    have ha0 : (0 : Int) ≤ (a : Int) := by omega
                    have hal2 : (a : Int) < (r.vs.length : Int) := by omega
                    obtain ⟨q0, q1, q2⟩ := At.z3 (HSW.out.fut (w' := wi)).at0
                    have lq : w.heap.size < g12 := by have := HSW.out.lt; omega
                    have l5 : b5 < g12 := by omega
                    have l7 : b7 < g12 := by omega
                    have l8 : b8 < g12 := by omega
                    rw [hA7] at q5
                    rw [hA5, hA8]
                    clear hc8 hnm hrk' hri hge hbd ha hc7 hv hfa hA5 hA7 hA8 pf
                    have HGI : Hid (g12 ≤ wi.heap.size) := by show _ ≤ _; omega
                    have HLN3 : Hid (((pickRow (fr.take j) r.vs).map Val.cells).length = j) := by show _ = _; rw [List.length_map, pickRow, List.length_map, List.length_take, HFL.out]; omega
                    have k3 := At.z1 HC3.out.at0; have lc3 := HC3.out.lt
                    go_upto_region 21 with (fail)
                    refine wp_region_held_drew (S := (fun w' => Step wo w' ∧ (∀ b o, b < g12 → w'.cell? ⟨b, o, none⟩ = wi.cell? ⟨b, o, none⟩))) (by kernel_rfl) (by (try dsimp only); (exact ⟨Step.of, fun b o h => ((fut wi _).mono HGI.out).cell (p := ⟨b, o, none⟩) h⟩)) (fun hHeld => ?_)
                    refine wpAnyH_take (i := 0) (oi := ⟨some 58, _, _, _, _, _⟩) (v := ?_) rfl (by kernel_rfl) (by kernel_rfl) (by kernel_rfl) (fun _ _ _ h => h) (Or.inl ⟨by rfl, ?_⟩) (by assumption) ?_
                    rotate_left
                    · ((intro w hSw); (try dsimp only at hSw); go_simp; (try with_reducible rfl))
                    (try simp only [Act.put, List.setIfInBounds_toArray, List.set_cons_zero, List.set_cons_succ])
                    refine wpAnyH_take (i := 2) (oi := ⟨some 60, _, _, _, _, _⟩) (v := ?_) rfl (by kernel_rfl) (by kernel_rfl) (by kernel_rfl) (fun _ _ _ h => h) (Or.inl ⟨by rfl, ?_⟩) (by assumption) ?_
                    rotate_left
                    · ((intro w hSw); (try dsimp only at hSw); go_simp; (try with_reducible rfl))
                    (try simp only [Act.put, List.setIfInBounds_toArray, List.set_cons_zero, List.set_cons_succ])
                    refine wpAnyH_take (i := 3) (oi := ⟨some 61, _, _, _, _, _⟩) (v := ?_) rfl (by kernel_rfl) (by kernel_rfl) (by kernel_rfl) (fun _ _ _ h => h) (Or.inl ⟨by rfl, ?_⟩) (by assumption) ?_
                    rotate_left
                    · ((intro w hSw); (try dsimp only at hSw); go_simp; (try with_reducible rfl))
                    (try simp only [Act.put, List.setIfInBounds_toArray, List.set_cons_zero, List.set_cons_succ])
                    refine wpAnyH_take (i := 7) (oi := ⟨some 65, _, _, _, _, _⟩) (v := ?_) rfl (by kernel_rfl) (by kernel_rfl) (by kernel_rfl) (fun _ _ _ h => h) (Or.inl ⟨by rfl, ?_⟩) (by assumption) ?_
                    rotate_left
                    · ((intro w hSw); (try dsimp only at hSw); go_simp; (try with_reducible rfl))
                    (try simp only [Act.put, List.setIfInBounds_toArray, List.set_cons_zero, List.set_cons_succ])
                    refine wpAnyH_take (i := 8) (oi := ⟨some 66, _, _, _, _, _⟩) (v := ?_) rfl (by kernel_rfl) (by kernel_rfl) (by kernel_rfl) (fun _ _ _ h => h) (Or.inl ⟨by rfl, ?_⟩) (by assumption) ?_
                    rotate_left
                    · ((intro w hSw); (try dsimp only at hSw); go_simp; (try with_reducible rfl))
                    (try simp only [Act.put, List.setIfInBounds_toArray, List.set_cons_zero, List.set_cons_succ])
                    refine wpAnyH_take (i := 9) (oi := ⟨some 67, _, _, _, _, _⟩) (v := ?_) rfl (by kernel_rfl) (by kernel_rfl) (by kernel_rfl) (fun _ _ _ h => h) (Or.inl ⟨by rfl, ?_⟩) (by assumption) ?_
                    rotate_left
                    · ((intro w hSw); (try dsimp only at hSw); go_simp; (try with_reducible rfl))
                    (try simp only [Act.put, List.setIfInBounds_toArray, List.set_cons_zero, List.set_cons_succ])
                    refine wpAnyH_take (i := 4) (oi := ⟨some 62, _, _, _, _, _⟩) (v := ?_) rfl (by kernel_rfl) (by kernel_rfl) (by kernel_rfl) (fun _ _ _ h => h) (Or.inl ⟨by rfl, ?_⟩) (by assumption) ?_
                    rotate_left
                    · ((intro w hSw); (try dsimp only at hSw); go_simp; (try with_reducible rfl))
                    (try simp only [Act.put, List.setIfInBounds_toArray, List.set_cons_zero, List.set_cons_succ])
                    refine wpAnyH_take (i := 10) (oi := ⟨some 68, _, _, _, _, _⟩) (v := ?_) rfl (by kernel_rfl) (by kernel_rfl) (by kernel_rfl) (fun _ _ _ h => h) (Or.inl ⟨by rfl, ?_⟩) (by assumption) ?_
                    rotate_left
                    · ((intro w hSw); (try dsimp only at hSw); go_simp; (try with_reducible rfl))
                    (try simp only [Act.put, List.setIfInBounds_toArray, List.set_cons_zero, List.set_cons_succ])
                    refine wpAnyH_take (i := 5) (oi := ⟨some 63, _, _, _, _, _⟩) (v := ?_) rfl (by kernel_rfl) (by kernel_rfl) (by kernel_rfl) (fun _ _ _ h => h) (Or.inl ⟨by rfl, ?_⟩) (by assumption) ?_
                    rotate_left
                    · ((intro w hSw); (try dsimp only at hSw); go_simp; (try with_reducible rfl))
                    (try simp only [Act.put, List.setIfInBounds_toArray, List.set_cons_zero, List.set_cons_succ])
                    refine wpAnyH_take (i := 11) (oi := ⟨some 69, _, _, _, _, _⟩) (v := ?_) rfl (by kernel_rfl) (by kernel_rfl) (by kernel_rfl) (fun _ _ _ h => h) (Or.inl ⟨by rfl, ?_⟩) (by assumption) ?_
                    rotate_left
                    · ((intro w hSw); (try dsimp only at hSw); go_simp; (try with_reducible rfl))
                    (try simp only [Act.put, List.setIfInBounds_toArray, List.set_cons_zero, List.set_cons_succ])
                    refine wpAnyH_take (i := 6) (oi := ⟨some 64, _, _, _, _, _⟩) (v := ?_) rfl (by kernel_rfl) (by kernel_rfl) (by kernel_rfl) (fun _ _ _ h => h) (Or.inl ⟨by rfl, ?_⟩) (by assumption) ?_
                    rotate_left
                    · ((intro w hSw); (try dsimp only at hSw); go_simp; (try with_reducible rfl))
                    (try simp only [Act.put, List.setIfInBounds_toArray, List.set_cons_zero, List.set_cons_succ])
                    refine wpAnyH_ready (rs := [1, 12]) (by kernel_rfl) (by simp) ?_
                    refine AllReadyH.cons (o := ⟨some 59, _, _, _, _, _⟩) rfl (fun K hK => ?_) (AllReadyH.cons (o := ⟨some 70, _, _, _, _, _⟩) rfl (fun K hK => ?_) AllReadyH.nil)
                    · go_simp
                      refine hK.out _ _ (by (try dsimp only); (exact ⟨Step.of, fun b o h => ((fut wi _).mono HGI.out).cell (p := ⟨b, o, none⟩) h⟩)) (fun hHeld => ?_)
                      clear hK K
                      (try simp only [Act.put, List.setIfInBounds_toArray, List.set_cons_zero, List.set_cons_succ])
                      refine wpAnyH_ready (rs := [12]) (by kernel_rfl) (by simp) ?_
                      refine AllReadyH.cons (o := ⟨some 70, _, _, _, _, _⟩) rfl (fun K hK => ?_) AllReadyH.nil
                      obtain ⟨hS1, hS2⟩ := hHeld
                      go_simp
                      (go_at_call 27; (with_reducible refine (PF.out _).mono ?_); rintro e w5 ⟨rfl, hs5⟩; clear k3 lc3; have k3 := At.z1 (HC3.out.fut (w' := w5)).at0; have lc3 := (HC3.out.fut (w' := w5)).lt)
                      refine hK.out _ _ (by (try dsimp only); (exact ⟨Step.of, fun b o h => ((fut wi _).mono HGI.out).cell (p := ⟨b, o, none⟩) h⟩)) (fun hHeld => ?_)
                      clear hK K
                      (try simp only [Act.put, List.setIfInBounds_toArray, List.set_cons_zero, List.set_cons_succ])
                      refine wpAnyH_take (i := 13) (oi := ⟨some 71, _, _, _, _, _⟩) (v := ?_) rfl (by kernel_rfl) (by kernel_rfl) (by kernel_rfl) (fun _ _ _ h => h) (Or.inl ⟨by rfl, ?_⟩) (by assumption) ?_
                      rotate_left
                      · ((intro w hSw); (try dsimp only at hSw); go_simp; (try with_reducible rfl))
                      (try simp only [Act.put, List.setIfInBounds_toArray, List.set_cons_zero, List.set_cons_succ])
                      refine wpAnyH_take (i := 14) (oi := ⟨some 72, _, _, _, _, _⟩) (v := ?_) rfl (by kernel_rfl) (by kernel_rfl) (by kernel_rfl) (fun _ _ _ h => h) (Or.inl ⟨by rfl, ?_⟩) (by assumption) ?_
                      rotate_left
                      · ((intro w hSw); (try dsimp only at hSw); go_simp; (try with_reducible rfl))
                      (try simp only [Act.put, List.setIfInBounds_toArray, List.set_cons_zero, List.set_cons_succ])
                      refine wpAnyH_ready (rs := [15]) (by kernel_rfl) (by simp) ?_
                      refine AllReadyH.cons (o := ⟨some 73, _, _, _, _, _⟩) rfl (fun K hK => ?_) AllReadyH.nil
                      obtain ⟨hS1, hS2⟩ := hHeld
                      go_simp
                      (go_at_call 25; (with_reducible refine (CL.out _).mono ?_); rintro e w6 ⟨rfl, hs6⟩; clear k3 lc3; have k3 := At.z1 (HC3.out.fut (w' := w6)).at0; have lc3 := (HC3.out.fut (w' := w6)).lt)
                      refine hK.out _ _ (by (try dsimp only); (exact ⟨Step.of, fun b o h => ((fut wi _).mono HGI.out).cell (p := ⟨b, o, none⟩) h⟩)) (fun hHeld => ?_)
                      clear hK K
                      (try simp only [Act.put, List.setIfInBounds_toArray, List.set_cons_zero, List.set_cons_succ])
                      refine wpAnyH_ready (rs := [16]) (by kernel_rfl) (by simp) ?_
                      refine AllReadyH.cons (o := ⟨some 74, _, _, _, _, _⟩) rfl (fun K hK => ?_) AllReadyH.nil
                      go_simp
                      refine hK.out _ _ (by (try dsimp only); (exact ⟨Step.of, fun b o h => ((fut wi _).mono HGI.out).cell (p := ⟨b, o, none⟩) h⟩)) (fun hHeld => ?_)
                      clear hK K
                      (try simp only [Act.put, List.setIfInBounds_toArray, List.set_cons_zero, List.set_cons_succ])
                      refine wpAnyH_ready (rs := [17]) (by kernel_rfl) (by simp) ?_
                      refine AllReadyH.cons (o := ⟨some 75, _, _, _, _, _⟩) rfl (fun K hK => ?_) AllReadyH.nil
                      (have HOW := hide ((HO3.out.fut (w' := w6)).alloc (.cells #[.int .i64 (clean v).kind, .int .i64 (clean v).i, .bool (clean v).b, .string (clean v).s] 57)); have HNew := hide (SlAt.one w6 4 [.int .i64 (clean v).kind, .int .i64 (clean v).i, .bool (clean v).b, .string (clean v).s] 57); refine step_append_sl rfl (.tmp 59) (.tmp 74) 45 rfl eiV4 (base := g12 + 1) (xs := (pickRow (fr.take j) r.vs).map Val.cells) rfl HOW.out (vals_fit _) (ys := [[.int .i64 (clean v).kind, .int .i64 (clean v).i, .bool (clean v).b, .string (clean v).s]]) rfl (by simp) HNew.out (vals_fit [clean v]) (by rw [HLN3.out]; show (j + 1) * 40 ≤ _; omega) (Nat.le_trans hgwi (fut wi (w6.alloc (.cells #[.int .i64 (clean v).kind, .int .i64 (clean v).i, .bool (clean v).b, .string (clean v).s] 57))).size) (N := j + 1) (by rw [HLN3.out]; rfl) ?_; intro A7 c7 w7 hq1 hq2 hown7 hgr7 hbel7; have H7 := hide hown7; have hz7 := Nat.le_trans (Nat.le_trans hgwi (fut wi (w6.alloc (.cells #[.int .i64 (clean v).kind, .int .i64 (clean v).i, .bool (clean v).b, .string (clean v).s] 57))).size) hbel7.size; have hs7 : Step wo w7 := ⟨(fut wo (w6.alloc (.cells #[.int .i64 (clean v).kind, .int .i64 (clean v).i, .bool (clean v).b, .string (clean v).s] 57))).trans (hbel7.mono (by omega))⟩; have hb7 : Below g12 wi w7 := ((fut wi (w6.alloc (.cells #[.int .i64 (clean v).kind, .int .i64 (clean v).i, .bool (clean v).b, .string (clean v).s] 57))).mono HGI.out).trans (hbel7.mono (by omega)); have hb3 := ((HC3.out.fut (w' := w6)).alloc (.cells #[.int .i64 (clean v).kind, .int .i64 (clean v).i, .bool (clean v).b, .string (clean v).s] 57)).below hbel7 (by omega); clear k3 lc3; have k3 := At.z1 hb3.at0; have f3 := hb3.free; have lc3 := hb3.lt; have HD3 := hide hb3; clear hown7 hgr7 hbel7 hb3)
                      refine hK.out _ _ (by (try dsimp only); (exact ⟨hs7, fun b o h => hb7.cell (p := ⟨b, o, none⟩) h⟩)) (fun hHeld => ?_)
                      clear hK K
                      (try simp only [Act.put, List.setIfInBounds_toArray, List.set_cons_zero, List.set_cons_succ])
                      refine wpAnyH_take (i := 18) (oi := ⟨some 76, _, _, _, _, _⟩) (v := ?_) rfl (by kernel_rfl) (by kernel_rfl) (by kernel_rfl) (fun _ _ _ h => h) (Or.inl ⟨by rfl, ?_⟩) (by assumption) ?_
                      rotate_left
                      · ((intro w hSw); (try dsimp only at hSw); go_simp; (try with_reducible rfl))
                      (try simp only [Act.put, List.setIfInBounds_toArray, List.set_cons_zero, List.set_cons_succ])
                      refine wpAnyH_ready (rs := [19]) (by kernel_rfl) (by simp) ?_
                      refine AllReadyH.cons (o := ⟨none, _, _, _, _, _⟩) rfl (fun K hK => ?_) AllReadyH.nil
                      go_simp
                      refine hK.out _ _ (by (try dsimp only); (exact ⟨⟨hs7.below.setCell (by simp; omega) _⟩, fun b o h => (hb7.setCell (p := ⟨g12, 0, none⟩) (Nat.le_refl _) _).cell (p := ⟨b, o, none⟩) h⟩)) (fun hHeld => ?_)
                      clear hK K
                      (try simp only [Act.put, List.setIfInBounds_toArray, List.set_cons_zero, List.set_cons_succ])
                      refine wpAnyH_done (by kernel_rfl) ?_ _
                      go_wp2_with fail
                      go_roundw
                      case rel =>
                        refine ⟨j + 1, A7, c7, by omega, by go_num, by simpa using HD3.out.set_ 0 (.slice A7 (j + 1) c7), ?_, by simp [World.setCell]; exact hz7, ⟨hs7.below.setCell (by simp; omega) _⟩⟩
                        rw [HTK.out]
                        exact H7.out.set_other HD3.out (by decide) 0 _
                      case measure => simp [intOf]; omega
                    · obtain ⟨hS1, hS2⟩ := hHeld
                      go_simp
                      (go_at_call 27; (with_reducible refine (PF.out _).mono ?_); rintro e w5 ⟨rfl, hs5⟩; clear k3 lc3; have k3 := At.z1 (HC3.out.fut (w' := w5)).at0; have lc3 := (HC3.out.fut (w' := w5)).lt)
                      refine hK.out _ _ (by (try dsimp only); (exact ⟨Step.of, fun b o h => ((fut wi _).mono HGI.out).cell (p := ⟨b, o, none⟩) h⟩)) (fun hHeld => ?_)
                      clear hK K
                      (try simp only [Act.put, List.setIfInBounds_toArray, List.set_cons_zero, List.set_cons_succ])
                      refine wpAnyH_take (i := 13) (oi := ⟨some 71, _, _, _, _, _⟩) (v := ?_) rfl (by kernel_rfl) (by kernel_rfl) (by kernel_rfl) (fun _ _ _ h => h) (Or.inl ⟨by rfl, ?_⟩) (by assumption) ?_
                      rotate_left
                      · ((intro w hSw); (try dsimp only at hSw); go_simp; (try with_reducible rfl))
                      (try simp only [Act.put, List.setIfInBounds_toArray, List.set_cons_zero, List.set_cons_succ])
                      refine wpAnyH_take (i := 14) (oi := ⟨some 72, _, _, _, _, _⟩) (v := ?_) rfl (by kernel_rfl) (by kernel_rfl) (by kernel_rfl) (fun _ _ _ h => h) (Or.inl ⟨by rfl, ?_⟩) (by assumption) ?_
                      rotate_left
                      · ((intro w hSw); (try dsimp only at hSw); go_simp; (try with_reducible rfl))
                      (try simp only [Act.put, List.setIfInBounds_toArray, List.set_cons_zero, List.set_cons_succ])
                      refine wpAnyH_ready (rs := [1, 15]) (by kernel_rfl) (by simp) ?_
                      refine AllReadyH.cons (o := ⟨some 59, _, _, _, _, _⟩) rfl (fun K hK => ?_) (AllReadyH.cons (o := ⟨some 73, _, _, _, _, _⟩) rfl (fun K hK => ?_) AllReadyH.nil)
                      · go_simp
                        refine hK.out _ _ (by (try dsimp only); (exact ⟨Step.of, fun b o h => ((fut wi _).mono HGI.out).cell (p := ⟨b, o, none⟩) h⟩)) (fun hHeld => ?_)
                        clear hK K
                        (try simp only [Act.put, List.setIfInBounds_toArray, List.set_cons_zero, List.set_cons_succ])
                        refine wpAnyH_ready (rs := [15]) (by kernel_rfl) (by simp) ?_
                        refine AllReadyH.cons (o := ⟨some 73, _, _, _, _, _⟩) rfl (fun K hK => ?_) AllReadyH.nil
                        obtain ⟨hS1, hS2⟩ := hHeld
                        go_simp
                        (go_at_call 25; (with_reducible refine (CL.out _).mono ?_); rintro e w6 ⟨rfl, hs6⟩; clear k3 lc3; have k3 := At.z1 (HC3.out.fut (w' := w6)).at0; have lc3 := (HC3.out.fut (w' := w6)).lt)
                        refine hK.out _ _ (by (try dsimp only); (exact ⟨Step.of, fun b o h => ((fut wi _).mono HGI.out).cell (p := ⟨b, o, none⟩) h⟩)) (fun hHeld => ?_)
                        clear hK K
                        (try simp only [Act.put, List.setIfInBounds_toArray, List.set_cons_zero, List.set_cons_succ])
                        refine wpAnyH_ready (rs := [16]) (by kernel_rfl) (by simp) ?_
                        refine AllReadyH.cons (o := ⟨some 74, _, _, _, _, _⟩) rfl (fun K hK => ?_) AllReadyH.nil
                        go_simp
                        refine hK.out _ _ (by (try dsimp only); (exact ⟨Step.of, fun b o h => ((fut wi _).mono HGI.out).cell (p := ⟨b, o, none⟩) h⟩)) (fun hHeld => ?_)
                        clear hK K
                        (try simp only [Act.put, List.setIfInBounds_toArray, List.set_cons_zero, List.set_cons_succ])
                        refine wpAnyH_ready (rs := [17]) (by kernel_rfl) (by simp) ?_
                        refine AllReadyH.cons (o := ⟨some 75, _, _, _, _, _⟩) rfl (fun K hK => ?_) AllReadyH.nil
                        (have HOW := hide ((HO3.out.fut (w' := w6)).alloc (.cells #[.int .i64 (clean v).kind, .int .i64 (clean v).i, .bool (clean v).b, .string (clean v).s] 57)); have HNew := hide (SlAt.one w6 4 [.int .i64 (clean v).kind, .int .i64 (clean v).i, .bool (clean v).b, .string (clean v).s] 57); refine step_append_sl rfl (.tmp 59) (.tmp 74) 45 rfl eiV4 (base := g12 + 1) (xs := (pickRow (fr.take j) r.vs).map Val.cells) rfl HOW.out (vals_fit _) (ys := [[.int .i64 (clean v).kind, .int .i64 (clean v).i, .bool (clean v).b, .string (clean v).s]]) rfl (by simp) HNew.out (vals_fit [clean v]) (by rw [HLN3.out]; show (j + 1) * 40 ≤ _; omega) (Nat.le_trans hgwi (fut wi (w6.alloc (.cells #[.int .i64 (clean v).kind, .int .i64 (clean v).i, .bool (clean v).b, .string (clean v).s] 57))).size) (N := j + 1) (by rw [HLN3.out]; rfl) ?_; intro A7 c7 w7 hq1 hq2 hown7 hgr7 hbel7; have H7 := hide hown7; have hz7 := Nat.le_trans (Nat.le_trans hgwi (fut wi (w6.alloc (.cells #[.int .i64 (clean v).kind, .int .i64 (clean v).i, .bool (clean v).b, .string (clean v).s] 57))).size) hbel7.size; have hs7 : Step wo w7 := ⟨(fut wo (w6.alloc (.cells #[.int .i64 (clean v).kind, .int .i64 (clean v).i, .bool (clean v).b, .string (clean v).s] 57))).trans (hbel7.mono (by omega))⟩; have hb7 : Below g12 wi w7 := ((fut wi (w6.alloc (.cells #[.int .i64 (clean v).kind, .int .i64 (clean v).i, .bool (clean v).b, .string (clean v).s] 57))).mono HGI.out).trans (hbel7.mono (by omega)); have hb3 := ((HC3.out.fut (w' := w6)).alloc (.cells #[.int .i64 (clean v).kind, .int .i64 (clean v).i, .bool (clean v).b, .string (clean v).s] 57)).below hbel7 (by omega); clear k3 lc3; have k3 := At.z1 hb3.at0; have f3 := hb3.free; have lc3 := hb3.lt; have HD3 := hide hb3; clear hown7 hgr7 hbel7 hb3)
                        refine hK.out _ _ (by (try dsimp only); (exact ⟨hs7, fun b o h => hb7.cell (p := ⟨b, o, none⟩) h⟩)) (fun hHeld => ?_)
                        clear hK K
                        (try simp only [Act.put, List.setIfInBounds_toArray, List.set_cons_zero, List.set_cons_succ])
                        refine wpAnyH_take (i := 18) (oi := ⟨some 76, _, _, _, _, _⟩) (v := ?_) rfl (by kernel_rfl) (by kernel_rfl) (by kernel_rfl) (fun _ _ _ h => h) (Or.inl ⟨by rfl, ?_⟩) (by assumption) ?_
                        rotate_left
                        · ((intro w hSw); (try dsimp only at hSw); go_simp; (try with_reducible rfl))
                        (try simp only [Act.put, List.setIfInBounds_toArray, List.set_cons_zero, List.set_cons_succ])
                        refine wpAnyH_ready (rs := [19]) (by kernel_rfl) (by simp) ?_
                        refine AllReadyH.cons (o := ⟨none, _, _, _, _, _⟩) rfl (fun K hK => ?_) AllReadyH.nil
                        go_simp
                        refine hK.out _ _ (by (try dsimp only); (exact ⟨⟨hs7.below.setCell (by simp; omega) _⟩, fun b o h => (hb7.setCell (p := ⟨g12, 0, none⟩) (Nat.le_refl _) _).cell (p := ⟨b, o, none⟩) h⟩)) (fun hHeld => ?_)
                        clear hK K
                        (try simp only [Act.put, List.setIfInBounds_toArray, List.set_cons_zero, List.set_cons_succ])
                        refine wpAnyH_done (by kernel_rfl) ?_ _
                        go_wp2_with fail
                        go_roundw
                        case rel =>
                          refine ⟨j + 1, A7, c7, by omega, by go_num, by simpa using HD3.out.set_ 0 (.slice A7 (j + 1) c7), ?_, by simp [World.setCell]; exact hz7, ⟨hs7.below.setCell (by simp; omega) _⟩⟩
                          rw [HTK.out]
                          exact H7.out.set_other HD3.out (by decide) 0 _
                        case measure => simp [intOf]; omega
                      · obtain ⟨hS1, hS2⟩ := hHeld
                        go_simp
                        (go_at_call 25; (with_reducible refine (CL.out _).mono ?_); rintro e w6 ⟨rfl, hs6⟩; clear k3 lc3; have k3 := At.z1 (HC3.out.fut (w' := w6)).at0; have lc3 := (HC3.out.fut (w' := w6)).lt)
                        refine hK.out _ _ (by (try dsimp only); (exact ⟨Step.of, fun b o h => ((fut wi _).mono HGI.out).cell (p := ⟨b, o, none⟩) h⟩)) (fun hHeld => ?_)
                        clear hK K
                        (try simp only [Act.put, List.setIfInBounds_toArray, List.set_cons_zero, List.set_cons_succ])
                        refine wpAnyH_ready (rs := [1, 16]) (by kernel_rfl) (by simp) ?_
                        refine AllReadyH.cons (o := ⟨some 59, _, _, _, _, _⟩) rfl (fun K hK => ?_) (AllReadyH.cons (o := ⟨some 74, _, _, _, _, _⟩) rfl (fun K hK => ?_) AllReadyH.nil)
                        · go_simp
                          refine hK.out _ _ (by (try dsimp only); (exact ⟨Step.of, fun b o h => ((fut wi _).mono HGI.out).cell (p := ⟨b, o, none⟩) h⟩)) (fun hHeld => ?_)
                          clear hK K
                          (try simp only [Act.put, List.setIfInBounds_toArray, List.set_cons_zero, List.set_cons_succ])
                          refine wpAnyH_ready (rs := [16]) (by kernel_rfl) (by simp) ?_
                          refine AllReadyH.cons (o := ⟨some 74, _, _, _, _, _⟩) rfl (fun K hK => ?_) AllReadyH.nil
                          go_simp
                          refine hK.out _ _ (by (try dsimp only); (exact ⟨Step.of, fun b o h => ((fut wi _).mono HGI.out).cell (p := ⟨b, o, none⟩) h⟩)) (fun hHeld => ?_)
                          clear hK K
                          (try simp only [Act.put, List.setIfInBounds_toArray, List.set_cons_zero, List.set_cons_succ])
                          refine wpAnyH_ready (rs := [17]) (by kernel_rfl) (by simp) ?_
                          refine AllReadyH.cons (o := ⟨some 75, _, _, _, _, _⟩) rfl (fun K hK => ?_) AllReadyH.nil
                          (have HOW := hide ((HO3.out.fut (w' := w6)).alloc (.cells #[.int .i64 (clean v).kind, .int .i64 (clean v).i, .bool (clean v).b, .string (clean v).s] 57)); have HNew := hide (SlAt.one w6 4 [.int .i64 (clean v).kind, .int .i64 (clean v).i, .bool (clean v).b, .string (clean v).s] 57); refine step_append_sl rfl (.tmp 59) (.tmp 74) 45 rfl eiV4 (base := g12 + 1) (xs := (pickRow (fr.take j) r.vs).map Val.cells) rfl HOW.out (vals_fit _) (ys := [[.int .i64 (clean v).kind, .int .i64 (clean v).i, .bool (clean v).b, .string (clean v).s]]) rfl (by simp) HNew.out (vals_fit [clean v]) (by rw [HLN3.out]; show (j + 1) * 40 ≤ _; omega) (Nat.le_trans hgwi (fut wi (w6.alloc (.cells #[.int .i64 (clean v).kind, .int .i64 (clean v).i, .bool (clean v).b, .string (clean v).s] 57))).size) (N := j + 1) (by rw [HLN3.out]; rfl) ?_; intro A7 c7 w7 hq1 hq2 hown7 hgr7 hbel7; have H7 := hide hown7; have hz7 := Nat.le_trans (Nat.le_trans hgwi (fut wi (w6.alloc (.cells #[.int .i64 (clean v).kind, .int .i64 (clean v).i, .bool (clean v).b, .string (clean v).s] 57))).size) hbel7.size; have hs7 : Step wo w7 := ⟨(fut wo (w6.alloc (.cells #[.int .i64 (clean v).kind, .int .i64 (clean v).i, .bool (clean v).b, .string (clean v).s] 57))).trans (hbel7.mono (by omega))⟩; have hb7 : Below g12 wi w7 := ((fut wi (w6.alloc (.cells #[.int .i64 (clean v).kind, .int .i64 (clean v).i, .bool (clean v).b, .string (clean v).s] 57))).mono HGI.out).trans (hbel7.mono (by omega)); have hb3 := ((HC3.out.fut (w' := w6)).alloc (.cells #[.int .i64 (clean v).kind, .int .i64 (clean v).i, .bool (clean v).b, .string (clean v).s] 57)).below hbel7 (by omega); clear k3 lc3; have k3 := At.z1 hb3.at0; have f3 := hb3.free; have lc3 := hb3.lt; have HD3 := hide hb3; clear hown7 hgr7 hbel7 hb3)
                          refine hK.out _ _ (by (try dsimp only); (exact ⟨hs7, fun b o h => hb7.cell (p := ⟨b, o, none⟩) h⟩)) (fun hHeld => ?_)
                          clear hK K
                          (try simp only [Act.put, List.setIfInBounds_toArray, List.set_cons_zero, List.set_cons_succ])
                          refine wpAnyH_take (i := 18) (oi := ⟨some 76, _, _, _, _, _⟩) (v := ?_) rfl (by kernel_rfl) (by kernel_rfl) (by kernel_rfl) (fun _ _ _ h => h) (Or.inl ⟨by rfl, ?_⟩) (by assumption) ?_
                          rotate_left
                          · ((intro w hSw); (try dsimp only at hSw); go_simp; (try with_reducible rfl))
                          (try simp only [Act.put, List.setIfInBounds_toArray, List.set_cons_zero, List.set_cons_succ])
                          refine wpAnyH_ready (rs := [19]) (by kernel_rfl) (by simp) ?_
                          refine AllReadyH.cons (o := ⟨none, _, _, _, _, _⟩) rfl (fun K hK => ?_) AllReadyH.nil
                          go_simp
                          refine hK.out _ _ (by (try dsimp only); (exact ⟨⟨hs7.below.setCell (by simp; omega) _⟩, fun b o h => (hb7.setCell (p := ⟨g12, 0, none⟩) (Nat.le_refl _) _).cell (p := ⟨b, o, none⟩) h⟩)) (fun hHeld => ?_)
                          clear hK K
                          (try simp only [Act.put, List.setIfInBounds_toArray, List.set_cons_zero, List.set_cons_succ])
                          refine wpAnyH_done (by kernel_rfl) ?_ _
                          go_wp2_with fail
                          go_roundw
                          case rel =>
                            refine ⟨j + 1, A7, c7, by omega, by go_num, by simpa using HD3.out.set_ 0 (.slice A7 (j + 1) c7), ?_, by simp [World.setCell]; exact hz7, ⟨hs7.below.setCell (by simp; omega) _⟩⟩
                            rw [HTK.out]
                            exact H7.out.set_other HD3.out (by decide) 0 _
                          case measure => simp [intOf]; omega
                        · go_simp
                          refine hK.out _ _ (by (try dsimp only); (exact ⟨Step.of, fun b o h => ((fut wi _).mono HGI.out).cell (p := ⟨b, o, none⟩) h⟩)) (fun hHeld => ?_)
                          clear hK K
                          (try simp only [Act.put, List.setIfInBounds_toArray, List.set_cons_zero, List.set_cons_succ])
                          refine wpAnyH_ready (rs := [1]) (by kernel_rfl) (by simp) ?_
                          refine AllReadyH.cons (o := ⟨some 59, _, _, _, _, _⟩) rfl (fun K hK => ?_) AllReadyH.nil
                          go_simp
                          refine hK.out _ _ (by (try dsimp only); (exact ⟨Step.of, fun b o h => ((fut wi _).mono HGI.out).cell (p := ⟨b, o, none⟩) h⟩)) (fun hHeld => ?_)
                          clear hK K
                          (try simp only [Act.put, List.setIfInBounds_toArray, List.set_cons_zero, List.set_cons_succ])
                          refine wpAnyH_ready (rs := [17]) (by kernel_rfl) (by simp) ?_
                          refine AllReadyH.cons (o := ⟨some 75, _, _, _, _, _⟩) rfl (fun K hK => ?_) AllReadyH.nil
                          (have HOW := hide ((HO3.out.fut (w' := w6)).alloc (.cells #[.int .i64 (clean v).kind, .int .i64 (clean v).i, .bool (clean v).b, .string (clean v).s] 57)); have HNew := hide (SlAt.one w6 4 [.int .i64 (clean v).kind, .int .i64 (clean v).i, .bool (clean v).b, .string (clean v).s] 57); refine step_append_sl rfl (.tmp 59) (.tmp 74) 45 rfl eiV4 (base := g12 + 1) (xs := (pickRow (fr.take j) r.vs).map Val.cells) rfl HOW.out (vals_fit _) (ys := [[.int .i64 (clean v).kind, .int .i64 (clean v).i, .bool (clean v).b, .string (clean v).s]]) rfl (by simp) HNew.out (vals_fit [clean v]) (by rw [HLN3.out]; show (j + 1) * 40 ≤ _; omega) (Nat.le_trans hgwi (fut wi (w6.alloc (.cells #[.int .i64 (clean v).kind, .int .i64 (clean v).i, .bool (clean v).b, .string (clean v).s] 57))).size) (N := j + 1) (by rw [HLN3.out]; rfl) ?_; intro A7 c7 w7 hq1 hq2 hown7 hgr7 hbel7; have H7 := hide hown7; have hz7 := Nat.le_trans (Nat.le_trans hgwi (fut wi (w6.alloc (.cells #[.int .i64 (clean v).kind, .int .i64 (clean v).i, .bool (clean v).b, .string (clean v).s] 57))).size) hbel7.size; have hs7 : Step wo w7 := ⟨(fut wo (w6.alloc (.cells #[.int .i64 (clean v).kind, .int .i64 (clean v).i, .bool (clean v).b, .string (clean v).s] 57))).trans (hbel7.mono (by omega))⟩; have hb7 : Below g12 wi w7 := ((fut wi (w6.alloc (.cells #[.int .i64 (clean v).kind, .int .i64 (clean v).i, .bool (clean v).b, .string (clean v).s] 57))).mono HGI.out).trans (hbel7.mono (by omega)); have hb3 := ((HC3.out.fut (w' := w6)).alloc (.cells #[.int .i64 (clean v).kind, .int .i64 (clean v).i, .bool (clean v).b, .string (clean v).s] 57)).below hbel7 (by omega); clear k3 lc3; have k3 := At.z1 hb3.at0; have f3 := hb3.free; have lc3 := hb3.lt; have HD3 := hide hb3; clear hown7 hgr7 hbel7 hb3)
                          refine hK.out _ _ (by (try dsimp only); (exact ⟨hs7, fun b o h => hb7.cell (p := ⟨b, o, none⟩) h⟩)) (fun hHeld => ?_)
                          clear hK K
                          (try simp only [Act.put, List.setIfInBounds_toArray, List.set_cons_zero, List.set_cons_succ])
                          refine wpAnyH_take (i := 18) (oi := ⟨some 76, _, _, _, _, _⟩) (v := ?_) rfl (by kernel_rfl) (by kernel_rfl) (by kernel_rfl) (fun _ _ _ h => h) (Or.inl ⟨by rfl, ?_⟩) (by assumption) ?_
                          rotate_left
                          · ((intro w hSw); (try dsimp only at hSw); go_simp; (try with_reducible rfl))
                          (try simp only [Act.put, List.setIfInBounds_toArray, List.set_cons_zero, List.set_cons_succ])
                          refine wpAnyH_ready (rs := [19]) (by kernel_rfl) (by simp) ?_
                          refine AllReadyH.cons (o := ⟨none, _, _, _, _, _⟩) rfl (fun K hK => ?_) AllReadyH.nil
                          go_simp
                          refine hK.out _ _ (by (try dsimp only); (exact ⟨⟨hs7.below.setCell (by simp; omega) _⟩, fun b o h => (hb7.setCell (p := ⟨g12, 0, none⟩) (Nat.le_refl _) _).cell (p := ⟨b, o, none⟩) h⟩)) (fun hHeld => ?_)
                          clear hK K
                          (try simp only [Act.put, List.setIfInBounds_toArray, List.set_cons_zero, List.set_cons_succ])
                          refine wpAnyH_done (by kernel_rfl) ?_ _
                          go_wp2_with fail
                          go_roundw
                          case rel =>
                            refine ⟨j + 1, A7, c7, by omega, by go_num, by simpa using HD3.out.set_ 0 (.slice A7 (j + 1) c7), ?_, by simp [World.setCell]; exact hz7, ⟨hs7.below.setCell (by simp; omega) _⟩⟩
                            rw [HTK.out]
                            exact H7.out.set_other HD3.out (by decide) 0 _
                          case measure => simp [intOf]; omega
                  · obtain rfl : j = names.length := by omega
                    have HVS : Hid (pickRow (fr.take names.length) r.vs = pickRow fr r.vs) := by show _ = _; rw [← HFL.out, List.take_length]
                    rw [HVS.out] at HO3
                    have HVL : Hid ((pickRow fr r.vs).length = names.length) := by show _ = _; rw [pickRow, List.length_map, HFL.out]
                    have k3 := At.z1 HC3.out.at0; have lc3 := HC3.out.lt
                    have HOW := hide ((HR2.out.out.fut (w' := wi)).alloc (.cells #[.slice A3 names.length c3] 48))
                    have HNew := hide (SlAt.one wi 1 [.slice A3 names.length c3] 48)
                    go_wp2_with (at_builtin; go_loud (refine wpList_append_sl rfl (.tmp 77) (.tmp 79) 25 rfl eiRow (base := X2.heap.size) (xs := os.map RowA.cells) rfl HOW.out (rows_fit _) (ys := [[.slice A3 names.length c3]]) rfl (by simp) HNew.out (slice_fit' A3 names.length c3) (by rw [List.length_map, HOL.out]; show (k + 1) * 24 ≤ _; omega) (fut X2 (wi.alloc (.cells #[.slice A3 names.length c3] 48))).size (N := k + 1) (by rw [List.length_map, HOL.out]; rfl) ?_; intro A7 c7 w7 hq1 hq2 hown7 hgr7 hbel7; have HR7 := hide (OwnR.app (r := ⟨A3, c3, pickRow fr r.vs⟩) ((HR2.out.fut (w' := wi)).fut (w' := wi.alloc (.cells #[.slice A3 names.length c3] 48))) (own_len' ((HO3.out.more (base' := X2.heap.size) (by omega)).alloc (.cells #[.slice A3 names.length c3] 48)) HVL.out) (row_cells' hown7 HVL.out) hgr7); have HB7 := hide hbel7; clear hown7 hgr7 hbel7))
                    go_roundw
                    case rel => exact ⟨k + 1, A7, c7, os ++ [⟨A3, c3, pickRow fr r.vs⟩], by omega, by go_num, rfl, by show _ = _; rw [HTS.out, List.map_append, HOS.out]; rfl, by show _ = _; rw [List.length_append, HOL.out]; rfl, HR7.out, ⟨(fut X2 (wi.alloc (.cells #[.slice A3 names.length c3] 48))).trans HB7.out⟩⟩
                    case measure => simp [intOf]; omega
              · obtain rfl : k = rs.length := by omega
                rw [List.take_of_length_le (by simp)] at HOS
                go_wp2_with fail
                go_ret2
                exact ⟨A2, c2, os, by rw [HRT.out]; exact HOS.out, by rw [HRT.out, HOL.out]; rfl, by rw [HOL.out]; exact ⟨HR2.out.out.more hzX, fun r hr => (HR2.out.rows r hr).more hzX⟩, Step.of⟩
end Go.Proofs.YtinpnginjpfbpaaDoor
