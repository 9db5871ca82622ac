/-
  Rows lent, kept (without SameInts).
-/
import Derived.Test.YtinpnginjpfbpaaDoorFlVal
import Derived.Test.YtinpnginjpfbpaaDoorRo
import Derived.Laws.MakeOwn
namespace Go.Proofs.YtinpnginjpfbpaaDoor
open Go.RowKit

theorem spoilValues_any (l : List Val) (A : Option Addr) (c base : Nat) (w : World) (h : Own w base 57 4 (.slice A l.length c) (l.map Val.cells)) (hl : l.length ≤ 4611686018427387904) :
    Calls Tryd.prog 29 #[.slice A l.length c] w fun e w' => e = .returned (.tuple #[]) ∧ w.grownBy w' (Value.slice A l.length c).ownBlock := by
  obtain ⟨n, hn⟩ : ∃ n, l.length = n := ⟨_, rfl⟩
  rw [hn] at h hl ⊢
  have HN := hide hn; clear hn
  go_enter Tryd.func29, Tryd.ntmps29
  go_wp2
  go_loopw [2] (fun i wr => ∃ (k : Nat) (m : List Val), k ≤ n ∧ i = .int .i64 k ∧ m.length = n ∧ Own wr base 57 4 (.slice A n c) (m.map Val.cells) ∧ w.grownBy wr (Value.slice A n c).ownBlock) (fun i _ => n - (intOf i).toNat)
  case atStart => exact ⟨0, l, Nat.zero_le _, rfl, HN.out, h, World.grownBy.refl w _⟩
  case round =>
    obtain ⟨k, m, hk, rfl, hm, hown, hb⟩ := hrel
    have HB := hide hb; clear hb
    have HM := hide hm; clear hm
    by_cases hlt : k < n
    · obtain ⟨x, hx⟩ : ∃ x, m[k]? = some x := ⟨_, List.getElem?_eq_getElem (by have := HM.out; omega)⟩
      obtain ⟨g, rfl, hg, hgl, hat, hfr, hput⟩ := hown.put (vals_fit _).len (k := k) (j := 1) (cs := x.cells) (by simp [hx]) (by decide)
      obtain ⟨p0, p1, p2, p3⟩ := At.l4 hat
      have hf0 := hfr (k * 4 + 1)
      have HP := hide hput
      have HX := hide hx
      clear hat hfr hput hx hown
      go_wp2
      go_roundw
      case rel =>
        refine ⟨k + 1, m.set k { x with i := bits .xor .i64 x.i 90 }, by omega, by go_num, by simp [HM.out], ?_, HB.out.trans (grown_setCell _ _ _ _)⟩
        rw [List.map_set]
        exact HP.out _
      case measure => simp [intOf]; omega
    · go_wp2_with fail
      go_end0
      exact ⟨rfl, HB.out⟩
end Go.Proofs.YtinpnginjpfbpaaDoor
namespace Go.Proofs.YtinpnginjpfbpaaDoor
open Go.RowKit

theorem lendValuesO_any {w0 : World} (l : List Val) (A : Option Addr) (c : Nat) (w : World) (h : SlAt w0 w0.heap.size 4 A (l.map Val.cells)) [hf : Fut w0 w] (hl : (l.length + 2) * 40 ≤ 140737488355328) :
    Calls Tryd.prog 17 #[.slice A l.length c] w fun e w' => ∃ A' c', e = .returned (.slice A' l.length c') ∧ l.length + 2 ≤ c' ∧ c' ≤ 9223372036854775807 ∧ Own w' w.heap.size 57 4 (.slice A' (l.length + 2) c') ((l ++ [Val.mark, Val.mark]).map Val.cells) ∧ Step w w' := by
  go_enter Tryd.func17, Tryd.ntmps17
  go_wp2_with fail
  refine (copyValues_any l A c w h (by omega)).mono ?_
  rintro e w1 ⟨A1, c1, rfl, h1, h2, hown, hs1⟩
  have H1 := hide hown; clear hown
  have hz := hs1.size
  have HY := hide (SlAt.new (w := w1) (size := 4) (l := [Val.mark, Val.mark].map Val.cells) (cs := Val.mark.cells ++ Val.mark.cells) (t := 57) rfl (vals_fit _).len)
  go_wp2_with (at_builtin; refine wpList_append_sl rfl (.tmp 5) (.tmp 8) 45 rfl eiVal (base := w.heap.size) (xs := l.map Val.cells) rfl (H1.out.alloc _) (vals_fit _) (ys := [Val.mark, Val.mark].map Val.cells) rfl (by simp) HY.out (vals_fit _) (by simp; omega) (by simp; omega) (N := l.length + 2) (by simp) ?_; intro A2 c2 w2 hc1 hc2 hown2 hgr2 hbel2; obtain ⟨g, cur, rfl, _, _, _, _, _, _, _⟩ := hown2.blk (by simp); have H2 := hide hown2; have HG := hide hbel2; clear hown2 hgr2 hbel2)
  simp only [maxLen] at hc2
  go_wp2_with fail
  go_ret
  exact ⟨_, _, rfl, hc1, hc2, by rw [List.map_append]; exact H2.out, ⟨(fut w (w1.alloc _)).trans HG.out⟩⟩

def marked (vs : List Val) : List Val := vs ++ [Val.mark, Val.mark]
/-- Rows that the call has lent. -/
structure OwnL (w : World) (base : Nat) (A : Option Addr) (n c : Nat) (rs : List RowA) : Prop where
  out : Own w base 48 1 (.slice A n c) (rs.map RowA.cells)
  rows : ∀ r ∈ rs, Own w base 57 4 (.slice r.A (r.vs.length + 2) r.cap) ((marked r.vs).map Val.cells)
  caps : ∀ r ∈ rs, r.vs.length + 2 ≤ r.cap ∧ r.cap ≤ 9223372036854775807
theorem OwnL.fut {w w' : World} {base : Nat} {A : Option Addr} {n c : Nat} {rs : List RowA} (h : OwnL w base A n c rs) [k : Fut w w'] : OwnL w' base A n c rs := ⟨h.out.fut, fun r hr => (h.rows r hr).fut, h.caps⟩
theorem OwnL.app {w w' : World} {base : Nat} {A A' : Option Addr} {n c n' c' : Nat} {rs : List RowA} {r : RowA} (h : OwnL w base A n c rs) (hr : Own w base 57 4 (.slice r.A (r.vs.length + 2) r.cap) ((marked r.vs).map Val.cells)) (hc : r.vs.length + 2 ≤ r.cap ∧ r.cap ≤ 9223372036854775807) (ho : Own w' base 48 1 (.slice A' n' c') (rs.map RowA.cells ++ [r.cells])) (hg : w.grownBy w' (Value.slice A n c).ownBlock) : OwnL w' base A' n' c' (rs ++ [r]) :=
  ⟨by simpa using ho, fun x hx => by
    have hx' : Own w base 57 4 (.slice x.A (x.vs.length + 2) x.cap) ((marked x.vs).map Val.cells) := by
      rcases List.mem_append.1 hx with hx | hx
      · exact h.rows x hx
      · simp at hx; subst hx; exact hr
    exact hx'.grown_other hg (own_ne hx' h.out (by decide)), fun x hx => by
    rcases List.mem_append.1 hx with hx | hx
    · exact h.caps x hx
    · simp at hx; subst hx; exact hc⟩
/-- Lent rows, read. -/
theorem OwnL.rin {w : World} {base : Nat} {A : Option Addr} {c : Nat} {rs : List RowA} (h : OwnL w base A rs.length c rs) (hl : rs.length ≤ 5864062014800) (hs : ∀ vs ∈ rs.map RowA.vs, vs.length ≤ 3518437208780 ∧ ∀ v ∈ vs, v.s.size ≤ 9223372036854775807) : RowsIn w rs A c := by
  obtain ⟨A', c', hv, h1, h2, h3, _⟩ := h.out.slice (rows_fit rs).len (by simp : (rs.map RowA.cells).length = rs.length)
  injection hv with e1 e2 e3
  subst e1 e3
  refine ⟨h1, hl, by simpa [maxLen] using h2, h3, fun r hr => ?_⟩
  have q := hs r.vs (List.mem_map.2 ⟨r, hr, rfl⟩)
  have cp := h.caps r hr
  have sl := (h.rows r hr).sl (vals_fit (marked r.vs)).len
  rw [marked, List.map_append] at sl
  exact ⟨by omega, q.1, cp.2, sl.pre, q.2⟩

/-- make([]Row, 0, n + 1). -/
theorem made_rows (n : Nat) (hn : n ≤ 5864062014800) : ∃ O : Obj, (∀ w : World, (Instr.makeSlice 25 (.int .i64 0) (.int .i64 ((n : Int) + 1))).run Tryd.prog w = .ok (.slice (some ⟨w.heap.size, 0, none⟩) 0 (n + 1)) (w.alloc O)) ∧ ∀ w : World, Own (w.alloc O) w.heap.size 48 1 (.slice (some ⟨w.heap.size, 0, none⟩) 0 (n + 1)) [] := by
  obtain ⟨ht, ⟨i, z, hi, hz, hs, hby, hzs⟩, _, _⟩ := eiRow
  refine ⟨.cells (madeCells z.cells ((n + 1) * i.size)) 48, fun w => ?_, fun w => ?_⟩
  · have hr := run_make (P := Tryd.prog) w 25 48 i z ht hi hz .i64 .i64 0 ((n : Int) + 1) (by omega) (by omega) (by rw [hby]; omega) (by omega)
    rw [show ((n : Int) + 1).toNat = n + 1 by omega] at hr
    exact hr
  · rw [hs]
    exact World.ownsRow_made w _ (n + 1) (Nat.le_refl _) (by simp only [maxLen]; omega) (size_madeCells _ _)

set_option maxRecDepth 100000 in
set_option maxHeartbeats 8000000 in
theorem lendRows_any {w0 : World} (rs : List RowA) (Ar : Option Addr) (cr : Nat) (w : World) (hr : RowsIn w0 rs Ar cr) [f0 : Fut w0 w] :
    Calls Tryd.prog 5 #[.slice Ar rs.length cr] w fun e w' => ∃ (A' : Option Addr) (c' : Nat) (os : List RowA), e = .returned (.slice A' rs.length c') ∧ os.map RowA.vs = rs.map RowA.vs ∧ OwnL w' w.heap.size A' rs.length c' os ∧ Step w w' := by
  have z0 := f0.below.size
  have hrc := hr.hcap; have hrm := hr.hcapm
  obtain ⟨OBJ, hmk, hmo⟩ := made_rows rs.length hrm
  have HMO := hide (hmo w)
  clear hmo
  go_enter Tryd.func5, Tryd.ntmps5
  go_wp2_with fail
  clear hmk
  go_loopw [3, 4] (fun out i wr => ∃ (j : Nat) (A' : Option Addr) (c' : Nat) (os : List RowA), j ≤ rs.length ∧ i = .int .i64 j ∧ out = .slice A' j c' ∧ Hid (os.map RowA.vs = (rs.map RowA.vs).take j) ∧ Hid (os.length = j) ∧ OwnL wr w.heap.size A' j c' os ∧ Step w wr) (fun _ i _ => rs.length - (intOf i).toNat)
  case atStart => exact ⟨0, some ⟨w.heap.size, 0, none⟩, rs.length + 1, [], Nat.zero_le _, rfl, rfl, rfl, rfl, ⟨HMO.out, fun r h => by simp at h, fun r h => by simp at h⟩, Step.of⟩
  case round =>
    obtain ⟨j, A', c', os, hj, rfl, rfl, HOS, HOL, hown, hst⟩ := hrel
    have HO := hide hown; clear hown
    obtain ⟨wo, rfl⟩ : ∃ x : World, x = wr := ⟨_, rfl⟩
    have hzo := hst.size
    by_cases hlt : j < rs.length
    · obtain ⟨b2, off2, hA2, hb2, r, hrk, hri, hcell⟩ := hr.row (w' := wo) inferInstance hlt
      rw [hA2]
      have hlb2 : b2 < wo.heap.size := by omega
      have HTK : Hid ((rs.map RowA.vs).take (j + 1) = (rs.map RowA.vs).take j ++ [r.vs]) := by show _ = _; rw [List.take_add_one]; simp [hrk]
      have hrv := hri.hcapm
      have LV := hide (fun w' [Fut w0 w'] => lendValuesO_any r.vs r.A r.cap w' hri.at_ (by omega))
      have hjl : (j : Int) < (rs.length : Int) := by omega
      have hj0 : (0 : Int) ≤ (j : Int) := by omega
      clear hrk hA2
      go_wp2_with (first
        | (go_at_call 17; refine (LV.out _).mono ?_; intro e w5 hr5; obtain ⟨A5, c5, rfl, hc5, hc6, ho5, hs5⟩ := hr5; have HN5 := hide (ho5.more (base' := w.heap.size) hzo); clear ho5)
        | (at_builtin; have HOW := hide ((HO.out.out.fut (w' := w5)).alloc (.cells #[.slice A5 r.vs.length c5] 48)); have HNew := hide (SlAt.one w5 1 [.slice A5 r.vs.length c5] 48); go_loud (refine wpList_append_sl rfl (.tmp 15) (.tmp 23) 25 rfl eiRow (base := w.heap.size) (xs := os.map RowA.cells) rfl HOW.out (rows_fit _) (ys := [[.slice A5 r.vs.length c5]]) rfl (by simp) HNew.out (slice_fit A5 r.vs.length c5) (by rw [List.length_map, HOL.out]; show (j + 1) * 24 ≤ _; omega) (fut w (w5.alloc (.cells #[.slice A5 r.vs.length c5] 48))).size (N := j + 1) (by rw [List.length_map, HOL.out]; rfl) ?_; intro A7 c7 w7 hq1 hq2 hown7 hgr7 hbel7; have HR7 := hide (OwnL.app (r := ⟨A5, c5, r.vs⟩) (OwnL.fut (w' := w5.alloc (.cells #[.slice A5 r.vs.length c5] 48)) HO.out) HN5.out.fut ⟨hc5, hc6⟩ hown7 hgr7); have HB7 := hide hbel7; clear hown7 hgr7 hbel7)))
      go_roundw
      case rel => exact ⟨j + 1, A7, c7, os ++ [⟨A5, c5, r.vs⟩], by omega, by go_num, rfl, by show _ = _; rw [HTK.out, List.map_append, HOS.out]; rfl, by show _ = _; rw [List.length_append, HOL.out]; rfl, HR7.out, ⟨(fut w (w5.alloc (.cells #[.slice A5 r.vs.length c5] 48))).trans HB7.out⟩⟩
      case measure => simp [intOf]; omega
    · obtain rfl : j = rs.length := by omega
      go_wp2_with fail
      go_ret
      exact ⟨A', c', os, rfl, by have h_ := HOS.out; rw [show rs.length = (rs.map RowA.vs).length by simp, List.take_length] at h_; exact h_, HO.out, Step.of⟩

set_option maxRecDepth 100000 in
set_option maxHeartbeats 8000000 in
theorem keptRows_any {w1 w2 : World} (base : Nat) (os rs : List RowA) (A1 A2 : Option Addr) (c1 c2 : Nat) (w : World) (h1 : OwnL w1 base A1 os.length c1 os) (h2 : RowsIn w2 rs A2 c2) (he : os.map RowA.vs = rs.map RowA.vs) [f1 : Fut w1 w] [f2 : Fut w2 w] :
    Calls Tryd.prog 14 #[.slice A1 os.length c1, .slice A2 rs.length c2] w fun e w' => e = .returned (.bool true) ∧ Step w w' := by
  have z1 := f1.below.size; have z2 := f2.below.size
  have hl : os.length = rs.length := by have := congrArg List.length he; simpa using this
  have hrl := h2.hcapm
  have hol : os.length ≤ 5864062014800 := by omega
  have hr1 := h1.rin (by omega) (by
    intro vs hv
    rw [he] at hv
    obtain ⟨r, hr, rfl⟩ := List.mem_map.1 hv
    exact ⟨(h2.rows r hr).hcapm, (h2.rows r hr).strs⟩)
  have HE := hide he
  have HL := hide hl
  rw [← hl]
  clear he hl
  go_enter Tryd.func14, Tryd.ntmps14
  go_wp2_with fail
  go_loopw [5] (fun i wr => ∃ k : Nat, k ≤ os.length ∧ i = .int .i64 k ∧ Step w wr) (fun i _ => os.length - (intOf i).toNat)
  case atStart => exact ⟨0, Nat.zero_le _, rfl, Step.of⟩
  case round =>
    obtain ⟨k, hk, rfl, hst⟩ := hrel
    obtain ⟨wo, rfl⟩ : ∃ x : World, x = wr := ⟨_, rfl⟩
    have hzo := hst.size
    by_cases hlt : k < os.length
    · obtain ⟨b1, o1, hA1, hb1, r, hr, hri, p0⟩ := hr1.row (w' := wo) inferInstance hlt
      obtain ⟨b2, o2, hA2, hb2, t, ht, hti, q0⟩ := h2.row (w' := wo) inferInstance (k := k) (by rw [← HL.out]; exact hlt)
      have hrt : r.vs = t.vs := by
        have h3 : (os.map RowA.vs)[k]? = some r.vs := by simp [hr]
        have h4 : (rs.map RowA.vs)[k]? = some t.vs := by simp [ht]
        rw [HE.out, h4] at h3
        injection h3 with h3
        exact h3.symm
      have hta := hti.at_
      rw [← hrt] at q0 hta
      have hrm := hri.hcapm
      have hmem := List.mem_of_getElem? hr
      have hcp := h1.caps r hmem
      have hsl := (h1.rows r hmem).sl (vals_fit (marked r.vs)).len
      have SV := hide (fun w' [Fut w1 w'] [Fut w2 w'] => keptValues_any r.vs r.A t.A r.cap t.cap w' hsl hta hcp.1 hcp.2 (by omega))
      have hkl : (k : Int) < (os.length : Int) := by omega
      have hk0 : (0 : Int) ≤ (k : Int) := by omega
      have l1 : b1 < wo.heap.size := by omega
      have l2 : b2 < wo.heap.size := by omega
      rw [hA1, hA2]
      clear hr ht hrt hta hA1 hA2 hsl hcp
      go_upto_region 6 with (fail)
      refine wp_region_held_drew (S := (fun w' => Step wo w' ∧ (∀ b o, b < wo.heap.size → w'.cell? ⟨b, o, none⟩ = wo.cell? ⟨b, o, none⟩))) (by kernel_rfl) (by (try dsimp only); (first | exact ⟨hS1, hS2⟩ | exact ⟨Step.of, (bcell (fut _ _)).1⟩)) (fun hHeld => ?_)
      refine wpAnyH_take (i := 0) (oi := ⟨some 17, _, _, _, _, _⟩) (v := ?_) rfl (by kernel_rfl) (by kernel_rfl) (by kernel_rfl) (fun _ _ _ h => h) (Or.inl ⟨by rfl, ?_⟩) (by assumption) ?_
      rotate_left
      · ((intro w hSw); (try dsimp only at hSw); go_simp; (try with_reducible rfl))
      (try simp only [Act.put, List.setIfInBounds_toArray, List.set_cons_zero, List.set_cons_succ])
      refine wpAnyH_take (i := 1) (oi := ⟨some 18, _, _, _, _, _⟩) (v := ?_) rfl (by kernel_rfl) (by kernel_rfl) (by kernel_rfl) (fun _ _ _ h => h) (Or.inl ⟨by rfl, ?_⟩) (by assumption) ?_
      rotate_left
      · ((intro w hSw); (try dsimp only at hSw); go_simp; (try with_reducible rfl))
      (try simp only [Act.put, List.setIfInBounds_toArray, List.set_cons_zero, List.set_cons_succ])
      refine wpAnyH_take (i := 5) (oi := ⟨some 22, _, _, _, _, _⟩) (v := ?_) rfl (by kernel_rfl) (by kernel_rfl) (by kernel_rfl) (fun _ _ _ h => h) (Or.inl ⟨by rfl, ?_⟩) (by assumption) ?_
      rotate_left
      · ((intro w hSw); (try dsimp only at hSw); go_simp; (try with_reducible rfl))
      (try simp only [Act.put, List.setIfInBounds_toArray, List.set_cons_zero, List.set_cons_succ])
      refine wpAnyH_take (i := 6) (oi := ⟨some 23, _, _, _, _, _⟩) (v := ?_) rfl (by kernel_rfl) (by kernel_rfl) (by kernel_rfl) (fun _ _ _ h => h) (Or.inl ⟨by rfl, ?_⟩) (by assumption) ?_
      rotate_left
      · ((intro w hSw); (try dsimp only at hSw); go_simp; (try with_reducible rfl))
      (try simp only [Act.put, List.setIfInBounds_toArray, List.set_cons_zero, List.set_cons_succ])
      refine wpAnyH_take (i := 2) (oi := ⟨some 19, _, _, _, _, _⟩) (v := ?_) rfl (by kernel_rfl) (by kernel_rfl) (by kernel_rfl) (fun _ _ _ h => h) (Or.inl ⟨by rfl, ?_⟩) (by assumption) ?_
      rotate_left
      · ((intro w hSw); (try dsimp only at hSw); go_simp; (try with_reducible rfl))
      (try simp only [Act.put, List.setIfInBounds_toArray, List.set_cons_zero, List.set_cons_succ])
      refine wpAnyH_take (i := 7) (oi := ⟨some 24, _, _, _, _, _⟩) (v := ?_) rfl (by kernel_rfl) (by kernel_rfl) (by kernel_rfl) (fun _ _ _ h => h) (Or.inl ⟨by rfl, ?_⟩) (by assumption) ?_
      rotate_left
      · ((intro w hSw); (try dsimp only at hSw); go_simp; (try with_reducible rfl))
      (try simp only [Act.put, List.setIfInBounds_toArray, List.set_cons_zero, List.set_cons_succ])
      refine wpAnyH_take (i := 3) (oi := ⟨some 20, _, _, _, _, _⟩) (v := ?_) rfl (by kernel_rfl) (by kernel_rfl) (by kernel_rfl) (fun _ _ _ h => h) (Or.inl ⟨by rfl, ?_⟩) (by assumption) ?_
      rotate_left
      · ((intro w hSw); (try dsimp only at hSw); go_simp; (try with_reducible rfl))
      (try simp only [Act.put, List.setIfInBounds_toArray, List.set_cons_zero, List.set_cons_succ])
      refine wpAnyH_take (i := 8) (oi := ⟨some 25, _, _, _, _, _⟩) (v := ?_) rfl (by kernel_rfl) (by kernel_rfl) (by kernel_rfl) (fun _ _ _ h => h) (Or.inl ⟨by rfl, ?_⟩) (by assumption) ?_
      rotate_left
      · ((intro w hSw); (try dsimp only at hSw); go_simp; (try with_reducible rfl))
      (try simp only [Act.put, List.setIfInBounds_toArray, List.set_cons_zero, List.set_cons_succ])
      refine wpAnyH_take (i := 4) (oi := ⟨some 21, _, _, _, _, _⟩) (v := ?_) rfl (by kernel_rfl) (by kernel_rfl) (by kernel_rfl) (fun _ _ _ h => h) (Or.inl ⟨by rfl, ?_⟩) (by assumption) ?_
      rotate_left
      · ((intro w hSw); (try dsimp only at hSw); go_simp; (try with_reducible rfl))
      (try simp only [Act.put, List.setIfInBounds_toArray, List.set_cons_zero, List.set_cons_succ])
      refine wpAnyH_take (i := 9) (oi := ⟨some 26, _, _, _, _, _⟩) (v := ?_) rfl (by kernel_rfl) (by kernel_rfl) (by kernel_rfl) (fun _ _ _ h => h) (Or.inl ⟨by rfl, ?_⟩) (by assumption) ?_
      rotate_left
      · ((intro w hSw); (try dsimp only at hSw); go_simp; (try with_reducible rfl))
      (try simp only [Act.put, List.setIfInBounds_toArray, List.set_cons_zero, List.set_cons_succ])
      refine wpAnyH_ready (rs := [10]) (by kernel_rfl) (by simp) ?_
      refine AllReadyH.cons (o := ⟨some 27, _, _, _, _, _⟩) rfl (fun K hK => ?_) AllReadyH.nil
      obtain ⟨hS1, hS2⟩ := hHeld
      go_simp
      (go_at_call 31; (with_reducible refine (SV.out _).mono ?_); rintro e w5 ⟨rfl, hs5⟩)
      refine hK.out _ _ (by (try dsimp only); (first | exact ⟨hS1, hS2⟩ | exact ⟨Step.of, (bcell (fut _ _)).1⟩)) (fun hHeld => ?_)
      clear hK K
      (try simp only [Act.put, List.setIfInBounds_toArray, List.set_cons_zero, List.set_cons_succ])
      refine wpAnyH_take (i := 11) (oi := ⟨some 28, _, _, _, _, _⟩) (v := ?_) rfl (by kernel_rfl) (by kernel_rfl) (by kernel_rfl) (fun _ _ _ h => h) (Or.inl ⟨by rfl, ?_⟩) (by assumption) ?_
      rotate_left
      · ((intro w hSw); (try dsimp only at hSw); go_simp; (try with_reducible rfl))
      (try simp only [Act.put, List.setIfInBounds_toArray, List.set_cons_zero, List.set_cons_succ])
      refine wpAnyH_done (by kernel_rfl) ?_ _
      go_wp2_with fail
      go_roundw
      case rel => exact ⟨k + 1, by omega, by go_num, Step.of⟩
      case measure => simp [intOf]; omega
    · obtain rfl : k = os.length := by omega
      go_wp2_with fail
      go_ret
      exact ⟨rfl, Step.of⟩
end Go.Proofs.YtinpnginjpfbpaaDoor
