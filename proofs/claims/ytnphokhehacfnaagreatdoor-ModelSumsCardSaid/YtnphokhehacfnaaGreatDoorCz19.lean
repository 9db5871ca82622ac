/-
  Texts put together: Ypm, Xn.
-/
import Derived.Test.YtnphokhehacfnaaGreatDoorCz00
import Derived.Test.YtnphokhehacfnaaGreatDoorCz01
import Derived.Test.YtnphokhehacfnaaGreatDoorCz02
import Derived.Test.YtnphokhehacfnaaGreatDoorCz04
import Derived.Test.YtnphokhehacfnaaGreatDoorCz11
import Derived.Test.YtnphokhehacfnaaGreatDoorCz12
import Derived.Test.YtnphokhehacfnaaGreatDoorCz15
import Derived.Test.YtnphokhehacfnaaGreatDoorCz18
namespace Go.Proofs.YtnphokhehacfnaaGreatDoor
open Go.RowKit

theorem own_len' {w : World} {base n : Nat} {A : Option Addr} {c : Nat} {vs : List Val} (h : Own w base 36 4 (.slice A n c) (vs.map Val.cells)) (hn : vs.length = n) : Own w base 36 4 (.slice A vs.length c) (vs.map Val.cells) := by rw [hn]; exact h
theorem row_cells' {w : World} {base n m c c2 : Nat} {A A2 : Option Addr} {vs : List Val} {l : List (List Value)} (h : Own w base 67 1 (.slice A n c) (l ++ [[.slice A2 m c2]])) (hm : vs.length = m) : Own w base 67 1 (.slice A n c) (l ++ [(RowA.mk A2 c2 vs).cells]) := by
  have : (RowA.mk A2 c2 vs).cells = [.slice A2 m c2] := by simp [RowA.cells, hm]
  rw [this]; exact h
theorem slice_fit' (A : Option Addr) (n c : Nat) : Fit 1 [[Value.slice A n c]] := slice_fit A n c
def namesOk (s : Sch) (names : List ByteArray) : Bool := names.all fun nm => decide (0 ≤ idx (named nm) s.cols)
def widthOk (s : Sch) (vss : List (List Val)) : Bool := vss.all fun vs => vs.length == s.cols.length
theorem pickR_eq (s : Sch) (rs : List (List Val)) (names : List ByteArray) : pickR s rs names = if mayB s = true ∧ namesOk s names = true ∧ widthOk s rs = true then (rs.map (pickRow (pickFr s.cols names)), 0) else ([], 1400) := rfl
theorem all_bad {α : Type} {p : α → Bool} {l : List α} {k : Nat} {x : α} (hx : l[k]? = some x) (h : p x = false) : l.all p = false := by
  cases e : l.all p with
  | false => rfl
  | true =>
    have := List.all_eq_true.1 e x (List.mem_of_getElem? hx)
    rw [h] at this; cases this
theorem all_take_succ {α : Type} {p : α → Bool} {l : List α} {k : Nat} {x : α} (hx : l[k]? = some x) (h : (l.take k).all p = true) (hp : p x = true) : (l.take (k + 1)).all p = true := by
  rw [List.take_add_one, hx, List.all_append, h]
  simpa using hp
theorem pickFr_len (cols : List Col) (names : List ByteArray) : (pickFr cols names).length = names.length := by simp [pickFr]
theorem pickRow_len (fr : List Int) (vs : List Val) : (pickRow fr vs).length = fr.length := by simp [pickRow]
theorem pickFr_succ {cols : List Col} {names : List ByteArray} {k : Nat} {nm : ByteArray} (h : names[k]? = some nm) : pickFr cols (names.take (k + 1)) = pickFr cols (names.take k) ++ [idx (named nm) cols] := by
  unfold pickFr
  rw [List.take_add_one, h]
  simp
theorem pickRow_succ {fr : List Int} {vs : List Val} {j a : Nat} {v : Val} (h : fr[j]? = some (a : Int)) (hv : vs[a]? = some v) : pickRow (fr.take (j + 1)) vs = pickRow (fr.take j) vs ++ [clean v] := by
  unfold pickRow
  rw [List.take_add_one, h]
  simp [List.getD_eq_getElem?_getD, hv]

set_option maxRecDepth 100000 in
set_option maxHeartbeats 16000000 in
theorem ppick_any {w0 w1 w2 : World} (s : Sch) (As : Option Addr) (cs : Nat) (rs : List RowA) (Ar : Option Addr) (cr : Nat) (names : List ByteArray) (An : Option Addr) (cn : Nat) (w : World) (hs : SchIn w0 s As cs) (hr : RowsIn w1 rs Ar cr) (hn : SlAt w2 w2.heap.size 1 An (strCells names)) [f0 : Fut w0 w] [f1 : Fut w1 w] [f2 : Fut w2 w] (hnl : (names.length + 1) * 40 ≤ 140737488355328) :
    Calls Tryz.prog 129 #[.agg #[.int .i64 s.id, .slice As s.cols.length cs, .int .i64 s.next], .slice Ar rs.length cr, .slice An names.length cn] w fun e w' => ∃ (A' : Option Addr) (c' : Nat) (os : List RowA), os.map RowA.vs = (pickR s (rs.map RowA.vs) names).1 ∧ e = .returned (.tuple #[.slice A' os.length c', .int .i64 (pickR s (rs.map RowA.vs) names).2]) ∧ OwnR w' w.heap.size A' os.length c' os ∧ Step w w' := by
  have z0 := f0.below.size; have z1 := f1.below.size; have z2 := f2.below.size
  have hrc := hr.hcap; have hrm := hr.hcapm
  obtain ⟨T, hT⟩ : ∃ T, pickR s (rs.map RowA.vs) names = T := ⟨_, rfl⟩
  have HT : Hid ((if mayB s = true ∧ namesOk s names = true ∧ widthOk s (rs.map RowA.vs) = true then ((rs.map RowA.vs).map (pickRow (pickFr s.cols names)), 0) else ([], 1400)) = T) := by show _ = _; rw [← pickR_eq]; exact hT
  rw [hT]
  clear hT
  obtain ⟨W, hW⟩ : ∃ W, W = w.alloc (.cells #[.int .i64 s.id, .slice As s.cols.length cs, .int .i64 s.next] 24) := ⟨_, rfl⟩
  have SW : Step w W := by rw [hW]; exact Step.of
  have HSW : Hid (Blk W w.heap.size 24 [.int .i64 s.id, .slice As s.cols.length cs, .int .i64 s.next]) := by rw [hW]; exact Blk.new w [.int .i64 s.id, .slice As s.cols.length cs, .int .i64 s.next] 24
  have HW := hide hW
  have hzW := SW.size
  clear hW
  have pm := fun w' [Fut w0 w'] => pmay s As cs w' hs
  unfold Sch.val at pm
  cases hmb : mayB s with
  | false =>
    have hE : Hid (T = ([], 1400)) := by show _ = _; rw [← HT.out, if_neg (by rw [hmb]; simp)]
    rw [hmb] at pm
    have PM := hide pm
    clear pm hmb
    go_enter Tryz.func129, Tryz.ntmps129
    go_wp2_with (go_at_call 54; (with_reducible refine (PM.out _).mono ?_); rintro e w3 ⟨rfl, hs3⟩)
    go_ret2
    exact ⟨none, 0, [], by rw [hE.out]; rfl, by rw [hE.out]; rfl, ⟨Own.nil_ _ _ _ _, fun r h => by simp at h⟩, Step.of⟩
  | true =>
    have HMB := hide hmb
    rw [hmb] at pm
    have PM := hide pm
    clear pm hmb
    go_enter Tryz.func129, Tryz.ntmps129
    go_wp2_with (go_at_call 54; (with_reducible refine (PM.out _).mono ?_); rintro e w3 ⟨rfl, hs3⟩; rw [← HW.out] at hs3)
    have hz3 := hs3.size
    go_loopw [8, 10, 11, 23] (fun out _ _ i wr => ∃ (k : Nat) (A' : Option Addr) (c' : Nat), k ≤ names.length ∧ i = .int .i64 k ∧ out = .slice A' k c' ∧ Hid (namesOk s (names.take k) = true) ∧ Own wr w3.heap.size 3 1 (.slice A' k c') (intCells (pickFr s.cols (names.take k))) ∧ Step w3 wr) (fun _ _ _ i _ => names.length - (intOf i).toNat)
    case atStart => exact ⟨0, none, 0, Nat.zero_le _, rfl, rfl, rfl, Own.nil_ _ _ _ _, Step.of⟩
    case round =>
      obtain ⟨k, A', c', hk, rfl, rfl, HOK, hown, hst⟩ := hrel
      have HO := hide hown; clear hown
      obtain ⟨wo, rfl⟩ : ∃ x : World, x = wr := ⟨_, rfl⟩
      have hzo := hst.size
      by_cases hlt : k < names.length
      · obtain ⟨b, off, hA, hb, hc⟩ := hn.elem (w' := wo) inferInstance (k := k) (by simp [strCells]; omega)
        rw [hA]
        obtain ⟨nm, hnm⟩ : ∃ nm, names[k]? = some nm := ⟨_, List.getElem?_eq_getElem hlt⟩
        have n0 := At.l1 (hc k [.string nm] (by simp [strCells, hnm]))
        simp only [Nat.mul_one] at n0
        have hlb : b < wo.heap.size := by omega
        have hkl : (k : Int) < (names.length : Int) := by omega
        have hk0 : (0 : Int) ≤ (k : Int) := by omega
        obtain ⟨q0, q1, q2⟩ := At.z3 (HSW.out.fut (w' := wo)).at0; have lq := (HSW.out.fut (w' := wo)).lt
        have HFS := hide (pickFr_succ (cols := s.cols) hnm)
        have HNM := hide hnm
        have pf := fun w' [Fut w0 w'] => pfind s As cs nm w' hs
        unfold Sch.val at pf
        have hbd := idx_bd (named nm) s.cols
        obtain ⟨at_, hat⟩ : ∃ at_, idx (named nm) s.cols = at_ := ⟨_, rfl⟩
        rw [hat] at pf hbd HFS
        have HAT := hide hat
        have PF := hide pf
        clear hc hnm hA pf hat
        by_cases hneg : at_ < 0
        · have hE : Hid (T = ([], 1400)) := by
            show _ = _
            rw [← HT.out, if_neg]
            intro hh
            rw [namesOk, all_bad HNM.out (by rw [HAT.out]; simp; omega)] at hh
            cases hh.2.1
          go_wp2_with (go_at_call 125; (with_reducible refine (PF.out _).mono ?_); rintro e w5 ⟨rfl, hs5⟩)
          go_ret2
          exact ⟨none, 0, [], by rw [hE.out]; rfl, by rw [hE.out]; rfl, ⟨Own.nil_ _ _ _ _, fun r h => by simp at h⟩, Step.of⟩
        · have hnb : decide (at_ < 0) = false := by simp; omega
          have HOK2 : Hid (namesOk s (names.take (k + 1)) = true) := by show _ = _; exact all_take_succ HNM.out HOK.out (by rw [HAT.out]; simp; omega)
          have HLN : Hid ((intCells (pickFr s.cols (names.take k))).length = k) := by show _ = _; rw [intCells_len, pickFr_len]; simp; omega
          go_wp2_with (first
            | (go_at_call 125; (with_reducible refine (PF.out _).mono ?_); rintro e w5 ⟨rfl, hs5⟩)
            | (at_builtin; have HNew := hide (SlAt.one w5 1 [.int .i64 at_] 3); have HOw := hide ((HO.out.fut (w' := w5)).alloc (.cells #[.int .i64 at_] 3)); go_loud (refine wpList_append_sl rfl (.tmp 32) (.tmp 34) 68 rfl eiInt (base := w3.heap.size) (xs := intCells (pickFr s.cols (names.take k))) rfl HOw.out (int_fit _) (ys := [[.int .i64 at_]]) rfl (by simp) HNew.out (int_fit [at_]) (by rw [HLN.out]; show (k + 1) * 8 ≤ _; omega) (fut w3 (w5.alloc (.cells #[.int .i64 at_] 3))).size (N := k + 1) (by rw [HLN.out]; rfl) ?_; intro A5 c5 w6 hq1 hq2 hown5 hgr5 hbel5; have H5 := hide hown5; have HB5 := hide hbel5; clear hown5 hgr5 hbel5)))
          go_roundw
          case rel =>
            refine ⟨k + 1, A5, c5, by omega, by go_num, rfl, HOK2, ?_, ⟨(fut w3 (w5.alloc (.cells #[.int .i64 at_] 3))).trans HB5.out⟩⟩
            rw [HFS.out]
            have := H5.out
            simpa [intCells] using this
          case measure => simp [intOf]; omega
      · obtain rfl : k = names.length := by omega
        rw [List.take_length] at HO HOK
        obtain ⟨fr, hfr⟩ : ∃ fr, pickFr s.cols names = fr := ⟨_, rfl⟩
        rw [hfr] at HO HT
        have HFL : Hid (fr.length = names.length) := by show _ = _; rw [← hfr, pickFr_len]
        have HFG : Hid (∀ (j : Nat), j < names.length → ∃ a : Nat, fr[j]? = some (a : Int) ∧ a < s.cols.length) := by
          intro j hj
          have h1 : fr[j]? = some (idx (named names[j]) s.cols) := by rw [← hfr, pickFr, List.getElem?_map, List.getElem?_eq_getElem hj]; rfl
          have h2 := List.all_eq_true.1 HOK.out names[j] (List.getElem_mem hj)
          have h3 := idx_bd (named names[j]) s.cols
          simp at h2
          exact ⟨(idx (named names[j]) s.cols).toNat, by rw [h1]; congr 1; omega, by omega⟩
        have HFA : Hid (SlAt wo wo.heap.size 1 A' (intCells fr)) := HO.out.sl (int_fit _).len
        have hA3 : Step w wo := Step.of
        have hzA := hA3.size
        have hlW := HSW.out.lt
        clear hfr
        go_wp2_with fail
        obtain ⟨X, hX⟩ : ∃ x : World, x = wo := ⟨_, rfl⟩
        rw [← hX] at HO HFA hA3 hst hzo hzA
        rw [← hX]
        clear hX
        clear z0 z1 z2
        have z1 : w1.heap.size ≤ X.heap.size := (fut w1 X).size
        go_loopw [12, 14, 15, 17, 39, 52] (fun out _ _ _ i _ wr => ∃ (k : Nat) (A2 : Option Addr) (c2 : Nat) (os : List RowA), k ≤ rs.length ∧ i = .int .i64 k ∧ out = .slice A2 k c2 ∧ Hid (widthOk s ((rs.map RowA.vs).take k) = true) ∧ Hid (os.map RowA.vs = ((rs.map RowA.vs).take k).map (pickRow fr)) ∧ Hid (os.length = k) ∧ OwnR wr X.heap.size A2 k c2 os ∧ Step X wr) (fun _ _ _ _ i _ _ => rs.length - (intOf i).toNat)
        case atStart => exact ⟨0, none, 0, [], Nat.zero_le _, rfl, rfl, rfl, rfl, rfl, ⟨Own.nil_ _ _ _ _, fun r h => by simp at h⟩, Step.of⟩
        case round =>
          obtain ⟨k, A2, c2, os, hk, rfl, rfl, HWO, HOS, HOL, hownr, hst2⟩ := hrel
          have HR2 := hide hownr; clear hownr
          obtain ⟨wo, rfl⟩ : ∃ x : World, x = wr := ⟨_, rfl⟩
          have hzo2 := hst2.size
          by_cases hlt : k < rs.length
          · obtain ⟨b, off, hA, hb, r, hrk, hri, r0⟩ := hr.row (w' := wo) inferInstance hlt
            rw [hA]
            have hlb : b < wo.heap.size := by omega
            have hkl : (k : Int) < (rs.length : Int) := by omega
            have hk0 : (0 : Int) ≤ (k : Int) := by omega
            have hcapr := hri.hcap; have hcapmr := hri.hcapm
            have HVK : Hid ((rs.map RowA.vs)[k]? = some r.vs) := by show _ = _; simp [hrk]
            obtain ⟨q0, q1, q2⟩ := At.z3 (HSW.out.fut (w' := wo)).at0; have lq := (HSW.out.fut (w' := wo)).lt
            clear hrk hA
            by_cases hw : r.vs.length = s.cols.length
            · have hwb : ((r.vs.length : Int) != (s.cols.length : Int)) = false := by simp; omega
              have HWO2 : Hid (widthOk s ((rs.map RowA.vs).take (k + 1)) = true) := by show _ = _; exact all_take_succ HVK.out HWO.out (by simpa using hw)
              have HWL := hide hw
              clear hw
              go_wp2_with fail
              clear q0 q1 q2 lq hwb r0 hlb hkl hk0
              obtain ⟨g14, hg⟩ : ∃ g, g = wo.heap.size := ⟨_, rfl⟩
              obtain ⟨X6, hX6⟩ : ∃ x : World, x = (wo.alloc (.cells #[.slice r.A r.vs.length r.cap] 67)).alloc (.cells #[.slice none 0 0] 67) := ⟨_, rfl⟩
              have HC2 : Hid (Blk X6 g14 67 [.slice r.A r.vs.length r.cap]) := by rw [hX6, hg]; exact (Blk.new wo [.slice r.A r.vs.length r.cap] 67).alloc _
              have HC3 : Hid (Blk X6 (g14 + 1) 67 [.slice none 0 0]) := by rw [hX6, hg]; exact Blk.new_at (by simp) [.slice none 0 0] 67
              have hz6 : X6.heap.size = g14 + 2 := by rw [hX6, hg]; simp
              have hs6 : Step wo X6 := by rw [hX6]; exact Step.of
              rw [← hX6, ← hg]
              have hg1 : g14 ≤ wo.heap.size := by omega
              have hg2 : wo.heap.size ≤ g14 := by omega
              have HG := hide hg
              clear hg
              go_loopw [17, 52] (fun _ i wr => ∃ (j : Nat) (A3 : Option Addr) (c3 : Nat), j ≤ names.length ∧ i = .int .i64 j ∧ Blk wr (g14 + 1) 67 [.slice A3 j c3] ∧ Blk wr g14 67 [.slice r.A r.vs.length r.cap] ∧ Own wr (g14 + 2) 36 4 (.slice A3 j c3) ((pickRow (fr.take j) r.vs).map Val.cells) ∧ g14 + 2 ≤ wr.heap.size ∧ Step wo wr) (fun _ i _ => names.length - (intOf i).toNat)
              case atStart => exact ⟨0, none, 0, Nat.zero_le _, rfl, HC3.out, HC2.out, Own.nil_ _ _ _ _, by omega, hs6⟩
              case round =>
                clear HC2 HC3 hz6 hs6 hX6
                obtain ⟨j, A3, c3, hj, rfl, hb3, hb2, hown3, hgwi, hst3⟩ := hrel
                have HO3 := hide hown3; have HC3 := hide hb3; have HC2 := hide hb2
                clear hown3 hb3 hb2
                obtain ⟨wi, rfl⟩ : ∃ x : World, x = wr := ⟨_, rfl⟩
                have hzi := hst3.size
                have HLE : Hid (g14 + 1 ≤ wi.heap.size) := by show _ ≤ _; omega
                by_cases hlj : j < names.length
                · obtain ⟨a, hfa, hac⟩ := HFG.out j hlj
                  obtain ⟨b4, off4, hA4, hb4, hc4⟩ := HFA.out.elem (w' := wi) inferInstance (k := j) (by rw [intCells_len, HFL.out]; exact hlj)
                  have f0 := At.l1 (hc4 j [.int .i64 (a : Int)] (by simp [intCells, hfa]))
                  simp only [Nat.mul_one] at f0
                  obtain ⟨b5, off5, hA5, hb5, hc5⟩ := hri.at_.elem (w' := wi) inferInstance (k := a) (by rw [List.length_map, HWL.out]; exact hac)
                  obtain ⟨v, hv⟩ : ∃ v, r.vs[a]? = some v := ⟨_, List.getElem?_eq_getElem (by rw [HWL.out]; exact hac)⟩
                  obtain ⟨v0, v1, v2, v3⟩ := At.l4 (hc5 a v.cells (by simp [hv]))
                  have l4 : b4 < wi.heap.size := by omega
                  have l5 : b5 < g14 + 1 := by omega
                  have HTK : Hid ((pickRow (fr.take (j + 1)) r.vs).map Val.cells = (pickRow (fr.take j) r.vs).map Val.cells ++ [[.int .i64 (kindV v), .int .i64 (clean v).i, .bool (clean v).b, .string (clean v).s]]) := by show _ = _; rw [pickRow_succ hfa hv, List.map_append, List.map_singleton, box_cells]
                  have HLN3 : Hid (((pickRow (fr.take j) r.vs).map Val.cells).length = j) := by show _ = _; rw [List.length_map, pickRow_len, List.length_take, HFL.out]; omega
                  have PV := hide (plain_ag v)
                  have hjl : (j : Int) < (names.length : Int) := by omega
                  have hj0 : (0 : Int) ≤ (j : Int) := by omega
                  have ha0 : (0 : Int) ≤ (a : Int) := by omega
                  have hal : (a : Int) < (r.vs.length : Int) := by rw [HWL.out]; omega
                  have x2 := At.z1 HC2.out.at0; have lx2 := HC2.out.lt
                  rw [hA5] at x2
                  have HA5 := hide hA5
                  rw [hA4]
                  clear hc4 hc5 hfa hv hA4 hA5
                  have k3 := At.z1 HC3.out.at0; have lc3 := HC3.out.lt
                  go_upto_region 22 with (fail)
                  clear f0 l4
                  refine wp_region_held_drew (S := (fun w' => Step wo w' ∧ (∀ b o, b < g14 + 1 → w'.cell? ⟨b, o, none⟩ = wi.cell? ⟨b, o, none⟩))) (by kernel_rfl) (by (try dsimp only); (exact ⟨Step.of, fun b o h => ((fut wi _).mono HLE.out).cell (p := ⟨b, o, none⟩) h⟩)) (fun hHeld => ?_)
                  refine wT 0 56 (by assumption) ?_
                  refine wT 2 58 (by assumption) ?_
                  refine wT 4 60 (by assumption) ?_
                  refine wT 3 59 (by assumption) ?_
                  refine wT 5 61 (by assumption) ?_
                  refine wT 6 62 (by assumption) ?_
                  refine wpAnyH_ready (rs := [1, 7]) (by kernel_rfl) (by simp) ?_
                  refine AllReadyH.cons (o := ⟨some 57, _, _, _, _, _⟩) rfl (fun K hK => ?_) (AllReadyH.cons (o := ⟨some 63, _, _, _, _, _⟩) rfl (fun K hK => ?_) AllReadyH.nil)
                  · go_simp
                    refine hK.out _ _ (by (try dsimp only); (exact ⟨Step.of, fun b o h => ((fut wi _).mono HLE.out).cell (p := ⟨b, o, none⟩) h⟩)) (fun hHeld => ?_)
                    clear hK K
                    (try simp only [Act.put, List.setIfInBounds_toArray, List.set_cons_zero, List.set_cons_succ])
                    refine wpAnyH_ready (rs := [7]) (by kernel_rfl) (by simp) ?_
                    refine AllReadyH.cons (o := ⟨some 63, _, _, _, _, _⟩) rfl (fun K hK => ?_) AllReadyH.nil
                    obtain ⟨hS1, hS2⟩ := hHeld
                    go_simp
                    (go_at_call 109; (with_reducible refine (PV.out _).mono ?_); rintro e w6 ⟨rfl, hs6⟩; clear k3 lc3; have k3 := At.z1 (HC3.out.fut (w' := w6)).at0; have lc3 := (HC3.out.fut (w' := w6)).lt)
                    refine hK.out _ _ (by (try dsimp only); (exact ⟨Step.of, fun b o h => ((fut wi _).mono HLE.out).cell (p := ⟨b, o, none⟩) h⟩)) (fun hHeld => ?_)
                    clear hK K
                    (try simp only [Act.put, List.setIfInBounds_toArray, List.set_cons_zero, List.set_cons_succ])
                    refine wpAnyH_ready (rs := [8]) (by kernel_rfl) (by simp) ?_
                    refine AllReadyH.cons (o := ⟨some 64, _, _, _, _, _⟩) rfl (fun K hK => ?_) AllReadyH.nil
                    go_simp
                    refine hK.out _ _ (by (try dsimp only); (exact ⟨Step.of, fun b o h => ((fut wi _).mono HLE.out).cell (p := ⟨b, o, none⟩) h⟩)) (fun hHeld => ?_)
                    clear hK K
                    (try simp only [Act.put, List.setIfInBounds_toArray, List.set_cons_zero, List.set_cons_succ])
                    refine wpAnyH_ready (rs := [9]) (by kernel_rfl) (by simp) ?_
                    refine AllReadyH.cons (o := ⟨some 65, _, _, _, _, _⟩) rfl (fun K hK => ?_) AllReadyH.nil
                    (have HOW := hide ((HO3.out.fut (w' := w6)).alloc (.cells #[.int .i64 (kindV v), .int .i64 (clean v).i, .bool (clean v).b, .string (clean v).s] 36)); have HNew := hide (SlAt.one w6 4 [.int .i64 (kindV v), .int .i64 (clean v).i, .bool (clean v).b, .string (clean v).s] 36); refine step_append_sl rfl (.tmp 57) (.tmp 64) 65 rfl eiV4 (base := g14 + 2) (xs := (pickRow (fr.take j) r.vs).map Val.cells) rfl HOW.out (vals_fit _) (ys := [[.int .i64 (kindV v), .int .i64 (clean v).i, .bool (clean v).b, .string (clean v).s]]) rfl (by simp) HNew.out (box_fit v) (by rw [HLN3.out]; show (j + 1) * 40 ≤ _; omega) (Nat.le_trans hgwi (fut wi (w6.alloc (.cells #[.int .i64 (kindV v), .int .i64 (clean v).i, .bool (clean v).b, .string (clean v).s] 36))).size) (N := j + 1) (by rw [HLN3.out]; rfl) ?_; intro A7 c7 w7 hq1 hq2 hown7 hgr7 hbel7; have H7 := hide hown7; have hz7 := Nat.le_trans (Nat.le_trans hgwi (fut wi (w6.alloc (.cells #[.int .i64 (kindV v), .int .i64 (clean v).i, .bool (clean v).b, .string (clean v).s] 36))).size) hbel7.size; have hs7 : Step wo w7 := ⟨(fut wo (w6.alloc (.cells #[.int .i64 (kindV v), .int .i64 (clean v).i, .bool (clean v).b, .string (clean v).s] 36))).trans (hbel7.mono (by omega))⟩; have hb7 : Below (g14 + 1) wi w7 := ((fut wi (w6.alloc (.cells #[.int .i64 (kindV v), .int .i64 (clean v).i, .bool (clean v).b, .string (clean v).s] 36))).mono HLE.out).trans (hbel7.mono (by omega)); have hb3 := ((HC3.out.fut (w' := w6)).alloc (.cells #[.int .i64 (kindV v), .int .i64 (clean v).i, .bool (clean v).b, .string (clean v).s] 36)).below hbel7 (by omega); have HD2 := hide (((HC2.out.fut (w' := w6)).alloc (.cells #[.int .i64 (kindV v), .int .i64 (clean v).i, .bool (clean v).b, .string (clean v).s] 36)).below hbel7 (by omega)); clear k3 lc3; have k3 := At.z1 hb3.at0; have f3 := hb3.free; have lc3 := hb3.lt; have HD3 := hide hb3; clear hown7 hgr7 hbel7 hb3)
                    refine hK.out _ _ (by (try dsimp only); (exact ⟨hs7, fun b o h => hb7.cell (p := ⟨b, o, none⟩) h⟩)) (fun hHeld => ?_)
                    clear hK K
                    (try simp only [Act.put, List.setIfInBounds_toArray, List.set_cons_zero, List.set_cons_succ])
                    refine wT 10 66 (by assumption) ?_
                    refine wpAnyH_ready (rs := [11]) (by kernel_rfl) (by simp) ?_
                    refine AllReadyH.cons (o := ⟨none, _, _, _, _, _⟩) rfl (fun K hK => ?_) AllReadyH.nil
                    go_simp
                    refine hK.out _ _ (by (try dsimp only); (exact ⟨⟨hs7.below.setCell (by simp; omega) _⟩, fun b o h => (hb7.setCell (p := ⟨g14 + 1, 0, none⟩) (Nat.le_refl _) _).cell (p := ⟨b, o, none⟩) h⟩)) (fun hHeld => ?_)
                    clear hK K
                    (try simp only [Act.put, List.setIfInBounds_toArray, List.set_cons_zero, List.set_cons_succ])
                    refine wpAnyH_done (by kernel_rfl) ?_ _
                    go_wp2_with fail
                    go_roundw
                    case rel =>
                      refine ⟨j + 1, A7, c7, by omega, by go_num, by simpa using HD3.out.set_ 0 (.slice A7 (j + 1) c7), HD2.out.far (by simp) _, ?_, by simp [World.setCell]; exact hz7, ⟨hs7.below.setCell (by simp; omega) _⟩⟩
                      rw [HTK.out]
                      exact H7.out.set_other HD3.out (by decide) 0 _
                    case measure => simp [intOf]; omega
                  · obtain ⟨hS1, hS2⟩ := hHeld
                    go_simp
                    (go_at_call 109; (with_reducible refine (PV.out _).mono ?_); rintro e w6 ⟨rfl, hs6⟩; clear k3 lc3; have k3 := At.z1 (HC3.out.fut (w' := w6)).at0; have lc3 := (HC3.out.fut (w' := w6)).lt)
                    refine hK.out _ _ (by (try dsimp only); (exact ⟨Step.of, fun b o h => ((fut wi _).mono HLE.out).cell (p := ⟨b, o, none⟩) h⟩)) (fun hHeld => ?_)
                    clear hK K
                    (try simp only [Act.put, List.setIfInBounds_toArray, List.set_cons_zero, List.set_cons_succ])
                    refine wpAnyH_ready (rs := [1, 8]) (by kernel_rfl) (by simp) ?_
                    refine AllReadyH.cons (o := ⟨some 57, _, _, _, _, _⟩) rfl (fun K hK => ?_) (AllReadyH.cons (o := ⟨some 64, _, _, _, _, _⟩) rfl (fun K hK => ?_) AllReadyH.nil)
                    · go_simp
                      refine hK.out _ _ (by (try dsimp only); (exact ⟨Step.of, fun b o h => ((fut wi _).mono HLE.out).cell (p := ⟨b, o, none⟩) h⟩)) (fun hHeld => ?_)
                      clear hK K
                      (try simp only [Act.put, List.setIfInBounds_toArray, List.set_cons_zero, List.set_cons_succ])
                      refine wpAnyH_ready (rs := [8]) (by kernel_rfl) (by simp) ?_
                      refine AllReadyH.cons (o := ⟨some 64, _, _, _, _, _⟩) rfl (fun K hK => ?_) AllReadyH.nil
                      go_simp
                      refine hK.out _ _ (by (try dsimp only); (exact ⟨Step.of, fun b o h => ((fut wi _).mono HLE.out).cell (p := ⟨b, o, none⟩) h⟩)) (fun hHeld => ?_)
                      clear hK K
                      (try simp only [Act.put, List.setIfInBounds_toArray, List.set_cons_zero, List.set_cons_succ])
                      refine wpAnyH_ready (rs := [9]) (by kernel_rfl) (by simp) ?_
                      refine AllReadyH.cons (o := ⟨some 65, _, _, _, _, _⟩) rfl (fun K hK => ?_) AllReadyH.nil
                      (have HOW := hide ((HO3.out.fut (w' := w6)).alloc (.cells #[.int .i64 (kindV v), .int .i64 (clean v).i, .bool (clean v).b, .string (clean v).s] 36)); have HNew := hide (SlAt.one w6 4 [.int .i64 (kindV v), .int .i64 (clean v).i, .bool (clean v).b, .string (clean v).s] 36); refine step_append_sl rfl (.tmp 57) (.tmp 64) 65 rfl eiV4 (base := g14 + 2) (xs := (pickRow (fr.take j) r.vs).map Val.cells) rfl HOW.out (vals_fit _) (ys := [[.int .i64 (kindV v), .int .i64 (clean v).i, .bool (clean v).b, .string (clean v).s]]) rfl (by simp) HNew.out (box_fit v) (by rw [HLN3.out]; show (j + 1) * 40 ≤ _; omega) (Nat.le_trans hgwi (fut wi (w6.alloc (.cells #[.int .i64 (kindV v), .int .i64 (clean v).i, .bool (clean v).b, .string (clean v).s] 36))).size) (N := j + 1) (by rw [HLN3.out]; rfl) ?_; intro A7 c7 w7 hq1 hq2 hown7 hgr7 hbel7; have H7 := hide hown7; have hz7 := Nat.le_trans (Nat.le_trans hgwi (fut wi (w6.alloc (.cells #[.int .i64 (kindV v), .int .i64 (clean v).i, .bool (clean v).b, .string (clean v).s] 36))).size) hbel7.size; have hs7 : Step wo w7 := ⟨(fut wo (w6.alloc (.cells #[.int .i64 (kindV v), .int .i64 (clean v).i, .bool (clean v).b, .string (clean v).s] 36))).trans (hbel7.mono (by omega))⟩; have hb7 : Below (g14 + 1) wi w7 := ((fut wi (w6.alloc (.cells #[.int .i64 (kindV v), .int .i64 (clean v).i, .bool (clean v).b, .string (clean v).s] 36))).mono HLE.out).trans (hbel7.mono (by omega)); have hb3 := ((HC3.out.fut (w' := w6)).alloc (.cells #[.int .i64 (kindV v), .int .i64 (clean v).i, .bool (clean v).b, .string (clean v).s] 36)).below hbel7 (by omega); have HD2 := hide (((HC2.out.fut (w' := w6)).alloc (.cells #[.int .i64 (kindV v), .int .i64 (clean v).i, .bool (clean v).b, .string (clean v).s] 36)).below hbel7 (by omega)); clear k3 lc3; have k3 := At.z1 hb3.at0; have f3 := hb3.free; have lc3 := hb3.lt; have HD3 := hide hb3; clear hown7 hgr7 hbel7 hb3)
                      refine hK.out _ _ (by (try dsimp only); (exact ⟨hs7, fun b o h => hb7.cell (p := ⟨b, o, none⟩) h⟩)) (fun hHeld => ?_)
                      clear hK K
                      (try simp only [Act.put, List.setIfInBounds_toArray, List.set_cons_zero, List.set_cons_succ])
                      refine wT 10 66 (by assumption) ?_
                      refine wpAnyH_ready (rs := [11]) (by kernel_rfl) (by simp) ?_
                      refine AllReadyH.cons (o := ⟨none, _, _, _, _, _⟩) rfl (fun K hK => ?_) AllReadyH.nil
                      go_simp
                      refine hK.out _ _ (by (try dsimp only); (exact ⟨⟨hs7.below.setCell (by simp; omega) _⟩, fun b o h => (hb7.setCell (p := ⟨g14 + 1, 0, none⟩) (Nat.le_refl _) _).cell (p := ⟨b, o, none⟩) h⟩)) (fun hHeld => ?_)
                      clear hK K
                      (try simp only [Act.put, List.setIfInBounds_toArray, List.set_cons_zero, List.set_cons_succ])
                      refine wpAnyH_done (by kernel_rfl) ?_ _
                      go_wp2_with fail
                      go_roundw
                      case rel =>
                        refine ⟨j + 1, A7, c7, by omega, by go_num, by simpa using HD3.out.set_ 0 (.slice A7 (j + 1) c7), HD2.out.far (by simp) _, ?_, by simp [World.setCell]; exact hz7, ⟨hs7.below.setCell (by simp; omega) _⟩⟩
                        rw [HTK.out]
                        exact H7.out.set_other HD3.out (by decide) 0 _
                      case measure => simp [intOf]; omega
                    · go_simp
                      refine hK.out _ _ (by (try dsimp only); (exact ⟨Step.of, fun b o h => ((fut wi _).mono HLE.out).cell (p := ⟨b, o, none⟩) h⟩)) (fun hHeld => ?_)
                      clear hK K
                      (try simp only [Act.put, List.setIfInBounds_toArray, List.set_cons_zero, List.set_cons_succ])
                      refine wpAnyH_ready (rs := [1]) (by kernel_rfl) (by simp) ?_
                      refine AllReadyH.cons (o := ⟨some 57, _, _, _, _, _⟩) rfl (fun K hK => ?_) AllReadyH.nil
                      go_simp
                      refine hK.out _ _ (by (try dsimp only); (exact ⟨Step.of, fun b o h => ((fut wi _).mono HLE.out).cell (p := ⟨b, o, none⟩) h⟩)) (fun hHeld => ?_)
                      clear hK K
                      (try simp only [Act.put, List.setIfInBounds_toArray, List.set_cons_zero, List.set_cons_succ])
                      refine wpAnyH_ready (rs := [9]) (by kernel_rfl) (by simp) ?_
                      refine AllReadyH.cons (o := ⟨some 65, _, _, _, _, _⟩) rfl (fun K hK => ?_) AllReadyH.nil
                      (have HOW := hide ((HO3.out.fut (w' := w6)).alloc (.cells #[.int .i64 (kindV v), .int .i64 (clean v).i, .bool (clean v).b, .string (clean v).s] 36)); have HNew := hide (SlAt.one w6 4 [.int .i64 (kindV v), .int .i64 (clean v).i, .bool (clean v).b, .string (clean v).s] 36); refine step_append_sl rfl (.tmp 57) (.tmp 64) 65 rfl eiV4 (base := g14 + 2) (xs := (pickRow (fr.take j) r.vs).map Val.cells) rfl HOW.out (vals_fit _) (ys := [[.int .i64 (kindV v), .int .i64 (clean v).i, .bool (clean v).b, .string (clean v).s]]) rfl (by simp) HNew.out (box_fit v) (by rw [HLN3.out]; show (j + 1) * 40 ≤ _; omega) (Nat.le_trans hgwi (fut wi (w6.alloc (.cells #[.int .i64 (kindV v), .int .i64 (clean v).i, .bool (clean v).b, .string (clean v).s] 36))).size) (N := j + 1) (by rw [HLN3.out]; rfl) ?_; intro A7 c7 w7 hq1 hq2 hown7 hgr7 hbel7; have H7 := hide hown7; have hz7 := Nat.le_trans (Nat.le_trans hgwi (fut wi (w6.alloc (.cells #[.int .i64 (kindV v), .int .i64 (clean v).i, .bool (clean v).b, .string (clean v).s] 36))).size) hbel7.size; have hs7 : Step wo w7 := ⟨(fut wo (w6.alloc (.cells #[.int .i64 (kindV v), .int .i64 (clean v).i, .bool (clean v).b, .string (clean v).s] 36))).trans (hbel7.mono (by omega))⟩; have hb7 : Below (g14 + 1) wi w7 := ((fut wi (w6.alloc (.cells #[.int .i64 (kindV v), .int .i64 (clean v).i, .bool (clean v).b, .string (clean v).s] 36))).mono HLE.out).trans (hbel7.mono (by omega)); have hb3 := ((HC3.out.fut (w' := w6)).alloc (.cells #[.int .i64 (kindV v), .int .i64 (clean v).i, .bool (clean v).b, .string (clean v).s] 36)).below hbel7 (by omega); have HD2 := hide (((HC2.out.fut (w' := w6)).alloc (.cells #[.int .i64 (kindV v), .int .i64 (clean v).i, .bool (clean v).b, .string (clean v).s] 36)).below hbel7 (by omega)); clear k3 lc3; have k3 := At.z1 hb3.at0; have f3 := hb3.free; have lc3 := hb3.lt; have HD3 := hide hb3; clear hown7 hgr7 hbel7 hb3)
                      refine hK.out _ _ (by (try dsimp only); (exact ⟨hs7, fun b o h => hb7.cell (p := ⟨b, o, none⟩) h⟩)) (fun hHeld => ?_)
                      clear hK K
                      (try simp only [Act.put, List.setIfInBounds_toArray, List.set_cons_zero, List.set_cons_succ])
                      refine wT 10 66 (by assumption) ?_
                      refine wpAnyH_ready (rs := [11]) (by kernel_rfl) (by simp) ?_
                      refine AllReadyH.cons (o := ⟨none, _, _, _, _, _⟩) rfl (fun K hK => ?_) AllReadyH.nil
                      go_simp
                      refine hK.out _ _ (by (try dsimp only); (exact ⟨⟨hs7.below.setCell (by simp; omega) _⟩, fun b o h => (hb7.setCell (p := ⟨g14 + 1, 0, none⟩) (Nat.le_refl _) _).cell (p := ⟨b, o, none⟩) h⟩)) (fun hHeld => ?_)
                      clear hK K
                      (try simp only [Act.put, List.setIfInBounds_toArray, List.set_cons_zero, List.set_cons_succ])
                      refine wpAnyH_done (by kernel_rfl) ?_ _
                      go_wp2_with fail
                      go_roundw
                      case rel =>
                        refine ⟨j + 1, A7, c7, by omega, by go_num, by simpa using HD3.out.set_ 0 (.slice A7 (j + 1) c7), HD2.out.far (by simp) _, ?_, by simp [World.setCell]; exact hz7, ⟨hs7.below.setCell (by simp; omega) _⟩⟩
                        rw [HTK.out]
                        exact H7.out.set_other HD3.out (by decide) 0 _
                      case measure => simp [intOf]; omega
                · obtain rfl : j = names.length := by omega
                  have HVS : Hid (pickRow (fr.take names.length) r.vs = pickRow fr r.vs) := by show _ = _; rw [← HFL.out, List.take_length]
                  rw [HVS.out] at HO3
                  have HVL : Hid ((pickRow fr r.vs).length = names.length) := by show _ = _; rw [pickRow_len, HFL.out]
                  have k3 := At.z1 HC3.out.at0; have lc3 := HC3.out.lt
                  have HOW := hide ((HR2.out.out.fut (w' := wi)).alloc (.cells #[.slice A3 names.length c3] 67))
                  have HNew := hide (SlAt.one wi 1 [.slice A3 names.length c3] 67)
                  have HOS2 : Hid ((rs.map RowA.vs).take (k + 1) = (rs.map RowA.vs).take k ++ [r.vs]) := by show _ = _; rw [List.take_add_one, HVK.out]; rfl
                  go_wp2_with (at_builtin; go_loud (refine wpList_append_sl rfl (.tmp 68) (.tmp 70) 28 rfl eiRow (base := X.heap.size) (xs := os.map RowA.cells) rfl HOW.out (rows_fit _) (ys := [[.slice A3 names.length c3]]) rfl (by simp) HNew.out (slice_fit' A3 names.length c3) (by rw [List.length_map, HOL.out]; show (k + 1) * 24 ≤ _; omega) (fut X (wi.alloc (.cells #[.slice A3 names.length c3] 67))).size (N := k + 1) (by rw [List.length_map, HOL.out]; rfl) ?_; intro A7 c7 w7 hq1 hq2 hown7 hgr7 hbel7; have HR7 := hide (OwnR.app (r := ⟨A3, c3, pickRow fr r.vs⟩) ((HR2.out.fut (w' := wi)).fut (w' := wi.alloc (.cells #[.slice A3 names.length c3] 67))) (own_len' ((HO3.out.more (base' := X.heap.size) (by omega)).alloc (.cells #[.slice A3 names.length c3] 67)) HVL.out) (row_cells' hown7 HVL.out) hgr7); have HB7 := hide hbel7; clear hown7 hgr7 hbel7))
                  go_roundw
                  case rel => exact ⟨k + 1, A7, c7, os ++ [⟨A3, c3, pickRow fr r.vs⟩], by omega, by go_num, rfl, HWO2, by show _ = _; rw [HOS2.out, List.map_append, List.map_append, HOS.out]; rfl, by show _ = _; rw [List.length_append, HOL.out]; rfl, HR7.out, ⟨(fut X (wi.alloc (.cells #[.slice A3 names.length c3] 67))).trans HB7.out⟩⟩
                  case measure => simp [intOf]; omega
            · have hwb : ((r.vs.length : Int) != (s.cols.length : Int)) = true := by simp; omega
              have hE : Hid (T = ([], 1400)) := by
                show _ = _
                rw [← HT.out, if_neg]
                intro hh
                rw [widthOk, all_bad HVK.out (by simpa using hw)] at hh
                cases hh.2.2
              clear hw
              go_wp2_with fail
              go_ret2
              exact ⟨none, 0, [], by rw [hE.out]; rfl, by rw [hE.out]; rfl, ⟨Own.nil_ _ _ _ _, fun r h => by simp at h⟩, Step.of⟩
          · obtain rfl : k = rs.length := by omega
            rw [show rs.length = (rs.map RowA.vs).length by simp, List.take_length] at HWO HOS
            have hE : Hid (T = ((rs.map RowA.vs).map (pickRow fr), 0)) := by show _ = _; rw [← HT.out, if_pos ⟨HMB.out, HOK.out, HWO.out⟩]
            go_wp2_with fail
            go_ret2
            exact ⟨A2, c2, os, by rw [hE.out]; exact HOS.out, by rw [hE.out, HOL.out]; rfl, by rw [HOL.out]; exact ⟨HR2.out.out.more hzA, fun r hr => (HR2.out.rows r hr).more hzA⟩, Step.of⟩
end Go.Proofs.YtnphokhehacfnaaGreatDoor

namespace Go.Proofs.YtnphokhehacfnaaGreatDoor
open Go.RowKit

def namesN (t : Tb) (o : Opp) : List ByteArray := if o.cols.length = 0 then namesC t.s.cols else o.cols
def readNB (t : Tb) (o : Opp) (l : List Int) : Except Int (List ByteArray × List (List Val)) :=
  if o.cols.all (fun n => decide (0 ≤ idx (named n) t.s.cols)) = false then .error 5 else .ok (namesN t o, (pickR t.s (takeR t.rows l).1 (namesN t o)).1)
/-- What a read without an aggregate answers: names, rows ahead of their sorting. -/
def readN (t : Tb) (o : Opp) : Except Int (List ByteArray × List (List Val)) :=
  if o.kind ≠ 9 ∨ predB o.ns = false ∨ o.agg < 0 ∨ 4 < o.agg then .error 9
  else match yesP t o.ns with
    | .error c => .error c
    | .ok l => readNB t o l
/-- Names, sorted rows, in blocks from base on. -/
structure RowsOut (w : World) (base : Nat) (ns : List ByteArray) (vss : List (List Val)) (An : Option Addr) (cn : Nat) (os : List RowA) (Ar : Option Addr) (cr : Nat) : Prop where
  names : Own w base 9 1 (.slice An ns.length cn) (strCells ns)
  rows : OwnR w base Ar os.length cr os
  asc : Asc lessL (os.map RowA.vs)
  perm : (os.map RowA.vs).Perm (vss.map cleanL)
theorem Doer.grownE {w w' : World} {g D T O U : Nat} {t : TbA} {o : OpA} {e : TypeId} {cs : List Value} (h : Doer w g D T O t o) (hu : Blk w U e cs) (hg : w.grownBy w' (some U))
    (he : e ≠ 90 ∧ e ≠ 92 ∧ e ≠ 67 ∧ e ≠ 36) (hd : e ≠ 86 ∧ e ≠ 30 ∧ e ≠ 38) : Doer w' g D T O t o := by
  have mv : ∀ {e' : TypeId} {size base : Nat} {v : Value} {l : List (List Value)}, e' ≠ e → Own w base e' size v l → Own w' base e' size v l := fun hne ho => ho.grown_other hg fun q hq hh => ho.ne_ hu hne (by rw [hq]; exact hh)
  have nb : ∀ {b : Nat} {e' : TypeId} {c' : List Value}, e ≠ e' → Blk w b e' c' → Blk w' b e' c' := fun hne hb => hb.grown hg (by intro hh; injection hh with hh; exact hu.ne_ hb hne hh.symm)
  exact ⟨nb hd.1 h.d, nb hd.2.1 h.tb, nb hd.2.2 h.op, ⟨mv he.1.symm h.own.cols, h.own.ccap, mv he.2.1.symm h.own.flds, ⟨⟨mv he.2.2.1.symm h.own.rows.rows.out, fun r hr => mv he.2.2.2.symm (h.own.rows.rows.rows r hr)⟩, h.own.rows.diff⟩⟩, h.gT⟩
end Go.Proofs.YtnphokhehacfnaaGreatDoor

