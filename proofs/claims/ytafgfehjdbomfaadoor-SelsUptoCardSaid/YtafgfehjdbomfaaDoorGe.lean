/-
  sel.Take: rows by their places.
-/
import Derived.Test.YtafgfehjdbomfaaDoorGd
import Derived.Test.YtafgfehjdbomfaaDoorBase
namespace Go.Proofs.YtafgfehjdbomfaaDoor
open Go.RowKit


def takeOk (n : Nat) (at_ : List Int) (j : Nat) : Bool := (at_.take j).all fun k => decide (0 ≤ k) && decide (k < (n : Int))
def takeTo (vss : List (List Val)) (at_ : List Int) (j : Nat) : List (List Val) := (at_.take j).map fun k => (vss.getD k.toNat []).map clean
def takeR (vss : List (List Val)) (at_ : List Int) : List (List Val) × Int := if takeOk vss.length at_ at_.length = true then (takeTo vss at_ at_.length, 0) else ([], 1600)
theorem takeOk_bad {n j : Nat} {at_ : List Int} {x : Int} (hx : at_[j]? = some x) (hb : x < 0 ∨ (n : Int) ≤ x) : takeOk n at_ at_.length = false := by
  unfold takeOk
  rw [List.take_length]
  cases h : at_.all (fun k => decide (0 ≤ k) && decide (k < (n : Int))) with
  | false => rfl
  | true =>
    have := List.all_eq_true.1 h x (List.mem_of_getElem? hx)
    simp at this
    omega
theorem takeOk_succ {n j : Nat} {at_ : List Int} {x : Nat} (h : takeOk n at_ j = true) (hx : at_[j]? = some (x : Int)) (hb : x < n) : takeOk n at_ (j + 1) = true := by
  unfold takeOk at h ⊢
  rw [List.take_add_one, hx, List.all_append, h]
  simp
  omega
theorem takeTo_succ {vss : List (List Val)} {j x : Nat} {at_ : List Int} {vs : List Val} (hx : at_[j]? = some (x : Int)) (hv : vss[x]? = some vs) : takeTo vss at_ (j + 1) = takeTo vss at_ j ++ [vs.map clean] := by
  unfold takeTo
  rw [List.take_add_one, hx]
  simp [List.getD_eq_getElem?_getD, hv]

set_option maxRecDepth 100000 in
set_option maxHeartbeats 16000000 in
theorem ptake_any {w0 w1 : World} (rs : List RowA) (Ar : Option Addr) (cr : Nat) (at_ : List Int) (Aa : Option Addr) (ca : Nat) (w : World) (hr : RowsIn w0 rs Ar cr) (ha : SlAt w1 w1.heap.size 1 Aa (intCells at_)) [f0 : Fut w0 w] [f1 : Fut w1 w] (hal : at_.length ≤ 5864062014800) :
    Calls Tryd.prog 13 #[.slice Ar rs.length cr, .slice Aa at_.length ca] w fun e w' => ∃ (A' : Option Addr) (c' : Nat) (os : List RowA), os.map RowA.vs = (takeR (rs.map RowA.vs) at_).1 ∧ e = .returned (.tuple #[.slice A' os.length c', .int .i64 (takeR (rs.map RowA.vs) at_).2]) ∧ OwnR w' w.heap.size A' os.length c' os ∧ Step w w' := by
  have z0 := f0.below.size; have z1 := f1.below.size
  have hrc := hr.hcap; have hrm := hr.hcapm
  obtain ⟨T, hT⟩ : ∃ T, takeR (rs.map RowA.vs) at_ = T := ⟨_, rfl⟩
  have HT := hide hT
  rw [hT]
  clear hT
  go_enter Tryd.func13, Tryd.ntmps13
  go_wp2_with fail
  go_loopw [6, 8, 11] (fun out _ i wr => ∃ (j : Nat) (A' : Option Addr) (c' : Nat) (os : List RowA), j ≤ at_.length ∧ i = .int .i64 j ∧ out = .slice A' j c' ∧ Hid (takeOk rs.length at_ j = true) ∧ Hid (os.map RowA.vs = takeTo (rs.map RowA.vs) at_ j) ∧ Hid (os.length = j) ∧ OwnR wr w.heap.size A' j c' os ∧ Step w wr) (fun _ _ i _ => at_.length - (intOf i).toNat)
  case atStart => exact ⟨0, none, 0, [], Nat.zero_le _, rfl, rfl, rfl, rfl, rfl, ⟨Own.nil_ _ _ _ _, fun r h => by simp at h⟩, Step.of⟩
  case round =>
    obtain ⟨j, A', c', os, hj, rfl, rfl, HOK, HOS, HOL, hown, hst⟩ := hrel
    have HO := hide hown; clear hown
    obtain ⟨wo, rfl⟩ : ∃ x : World, x = wr := ⟨_, rfl⟩
    have hzo := hst.size
    by_cases hlt : j < at_.length
    · obtain ⟨b, off, rfl, hb, hc⟩ := ha.elem (w' := wo) inferInstance (k := j) (by rw [intCells_len]; exact hlt)
      obtain ⟨x, hx⟩ : ∃ x, at_[j]? = some x := ⟨_, List.getElem?_eq_getElem hlt⟩
      have x0 := At.l1 (hc j [.int .i64 x] (by simp [intCells, hx]))
      simp only [Nat.mul_one] at x0
      have hlb : b < wo.heap.size := by omega
      have hjl : (j : Int) < (at_.length : Int) := by omega
      have HX := hide hx
      clear hc hx
      by_cases hx1 : x < 0
      · have HBAD := hide (takeOk_bad (n := rs.length) HX.out (.inl hx1))
        have hE : Hid (T = ([], 1600)) := by show _ = _; rw [← HT.out, takeR, List.length_map, HBAD.out]; rfl
        go_wp2_with fail
        go_ret2
        exact ⟨none, 0, [], by rw [hE.out]; rfl, by rw [hE.out]; rfl, ⟨Own.nil_ _ _ _ _, fun r h => by simp at h⟩, Step.of⟩
      · by_cases hx2 : (rs.length : Int) ≤ x
        · have HBAD := hide (takeOk_bad (n := rs.length) HX.out (.inr hx2))
          have hE : Hid (T = ([], 1600)) := by show _ = _; rw [← HT.out, takeR, List.length_map, HBAD.out]; rfl
          go_wp2_with fail
          go_ret2
          exact ⟨none, 0, [], by rw [hE.out]; rfl, by rw [hE.out]; rfl, ⟨Own.nil_ _ _ _ _, fun r h => by simp at h⟩, Step.of⟩
        · obtain ⟨xn, rfl⟩ : ∃ xn : Nat, x = (xn : Int) := ⟨x.toNat, by omega⟩
          have hxn : xn < rs.length := by omega
          obtain ⟨b2, off2, rfl, hb2, r, hrk, hri, hcell⟩ := hr.row (w' := wo) inferInstance hxn
          have hlb2 : b2 < wo.heap.size := by omega
          have HVK : Hid ((rs.map RowA.vs)[xn]? = some r.vs) := by show _ = _; simp [hrk]
          have HTS := hide (takeTo_succ HX.out HVK.out)
          have HOK2 := hide (takeOk_succ HOK.out HX.out hxn)
          have PC := hide (fun w' [Fut w0 w'] => pclone_any r w' hri)
          have hx0 : (0 : Int) ≤ (xn : Int) := by omega
          have hx3 : (xn : Int) < (rs.length : Int) := by omega
          clear hrk hx1 hx2
          go_wp2_with (first
            | (go_at_call 39; refine (PC.out _).mono ?_; intro e w5 hr5; obtain ⟨A5, c5, rfl, ho5, hs5⟩ := hr5; have HN5 := hide (ho5.more (base' := w.heap.size) hzo); clear ho5)
            | (at_builtin; have HOW := hide ((HO.out.out.fut (w' := w5)).alloc (.cells #[.slice A5 r.vs.length c5] 54)); have HNew := hide (SlAt.one w5 1 [.slice A5 r.vs.length c5] 54); go_loud (refine wpList_append_sl rfl (.tmp 23) (.tmp 29) 28 rfl eiRow (base := w.heap.size) (xs := os.map RowA.cells) rfl HOW.out (rows_fit _) (ys := [[.slice A5 r.vs.length c5]]) rfl (by simp) HNew.out (slice_fit A5 r.vs.length c5) (by rw [List.length_map, HOL.out]; show (j + 1) * 24 ≤ _; omega) (fut w (w5.alloc (.cells #[.slice A5 r.vs.length c5] 54))).size (N := j + 1) (by rw [List.length_map, HOL.out]; rfl) ?_; intro A7 c7 w7 hq1 hq2 hown7 hgr7 hbel7; have HR7 := hide (OwnR.app (r := ⟨A5, c5, r.vs.map clean⟩) ((HO.out.fut (w' := w5)).fut (w' := w5.alloc (.cells #[.slice A5 r.vs.length c5] 54))) (own_len HN5.out.fut) (row_cells hown7) hgr7); have HB7 := hide hbel7; clear hown7 hgr7 hbel7)))
          go_roundw
          case rel => exact ⟨j + 1, A7, c7, os ++ [⟨A5, c5, r.vs.map clean⟩], by omega, by go_num, rfl, HOK2, by show _ = _; rw [HTS.out, ← HOS.out]; simp, by show _ = _; rw [List.length_append, HOL.out]; rfl, HR7.out, ⟨(fut w (w5.alloc (.cells #[.slice A5 r.vs.length c5] 54))).trans HB7.out⟩⟩
          case measure => simp [intOf]; omega
    · obtain rfl : j = at_.length := by omega
      have hE : Hid (T = (takeTo (rs.map RowA.vs) at_ at_.length, 0)) := by show _ = _; rw [← HT.out, takeR, List.length_map, if_pos HOK.out]
      go_wp2_with fail
      go_ret2
      exact ⟨A', c', os, by rw [hE.out]; exact HOS.out, by rw [hE.out, HOL.out]; rfl, by rw [HOL.out]; exact HO.out, Step.of⟩
end Go.Proofs.YtafgfehjdbomfaaDoor
