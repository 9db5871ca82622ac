/-
  Texts put together: Dh, Di.
-/
import Derived.Laws.Externs
import Derived.Test.YtnphokhehacfnaaGreatDoorPz00
import Derived.Test.YtnphokhehacfnaaGreatDoorPz03
import Derived.Test.YtnphokhehacfnaaGreatDoorPz06
import Derived.Test.YtnphokhehacfnaaGreatDoorPz09
import Derived.Test.YtnphokhehacfnaaGreatDoorPz11
import Derived.Test.YtnphokhehacfnaaGreatDoorPz12
namespace Go.Proofs.YtnphokhehacfnaaGreatDoor
open Go.RowKit

theorem set4_below {B : Nat} {w W : World} {g : Nat} (h : Below B w W) (hg : B ≤ g) (o : Nat) (v : Val) : Below B w (set4 W g o v) :=
  (((h.setCell (p := ⟨g, o, none⟩) hg _).setCell (p := ⟨g, o + 1, none⟩) hg _).setCell (p := ⟨g, o + 2, none⟩) hg _).setCell (p := ⟨g, o + 3, none⟩) hg _
theorem set4_cell (W : World) {g b : Nat} (hn : g ≠ b) (o : Nat) (v : Val) (o' : Nat) : (set4 W g o v).cell? ⟨b, o', none⟩ = W.cell? ⟨b, o', none⟩ := by
  have hn' : b ≠ g := hn.symm
  have e0 := Below.heap_setCell W ⟨g, o, none⟩ (.int .i64 v.kind) b hn'
  have e1 := Below.heap_setCell (W.setCell ⟨g, o, none⟩ (.int .i64 v.kind)) ⟨g, o + 1, none⟩ (.int .i64 v.i) b hn'
  have e2 := Below.heap_setCell ((W.setCell ⟨g, o, none⟩ (.int .i64 v.kind)).setCell ⟨g, o + 1, none⟩ (.int .i64 v.i)) ⟨g, o + 2, none⟩ (.bool v.b) b hn'
  have e3 := Below.heap_setCell (((W.setCell ⟨g, o, none⟩ (.int .i64 v.kind)).setCell ⟨g, o + 1, none⟩ (.int .i64 v.i)).setCell ⟨g, o + 2, none⟩ (.bool v.b)) ⟨g, o + 3, none⟩ (.string v.s) b hn'
  exact World.cell?_of_block (w := W) (e3.trans (e2.trans (e1.trans e0)))
theorem stat_put {w : World} {g : Nat} {c n : Int} {m x : Val} (h : Blk w g 158 [.int .i64 c, .int .i64 n, .int .i64 m.kind, .int .i64 m.i, .bool m.b, .string m.s, .int .i64 x.kind, .int .i64 x.i, .bool x.b, .string x.s]) (m' x' : Val) : Blk (set4 (set4 w g 2 m') g 6 x') g 158 [.int .i64 c, .int .i64 n, .int .i64 m'.kind, .int .i64 m'.i, .bool m'.b, .string m'.s, .int .i64 x'.kind, .int .i64 x'.i, .bool x'.b, .string x'.s] :=
  (((((((h.set_ 2 (.int .i64 m'.kind)).set_ 3 (.int .i64 m'.i)).set_ 4 (.bool m'.b)).set_ 5 (.string m'.s)).set_ 6 (.int .i64 x'.kind)).set_ 7 (.int .i64 x'.i)).set_ 8 (.bool x'.b)).set_ 9 (.string x'.s)
set_option maxRecDepth 100000 in
set_option maxHeartbeats 8000000 in
theorem statsOf_any {w0 : World} (c : Int) (vs : List Val) (A : Option Addr) (cap : Nat) (w : World) (h : SlAt w0 w0.heap.size 4 A (vs.map Val.cells)) [f0 : Fut w0 w] (hl : vs.length ≤ 4611686018427387904) :
    Calls Tryz.prog 161 #[.int .i64 c, .slice A vs.length cap] w fun e w' => e = .returned (.agg #[.int .i64 c, .int .i64 (nullsP vs : Int), .int .i64 (minP vs).kind, .int .i64 (minP vs).i, .bool (minP vs).b, .string (minP vs).s, .int .i64 (maxP vs).kind, .int .i64 (maxP vs).i, .bool (maxP vs).b, .string (maxP vs).s]) ∧ Step w w' := by
  have z0_ := f0.below.size
  have hfd : ∀ (a b c d : Value) (w : World), (Instr.field 36 (.agg #[a, b, c, d]) 0).run Tryz.prog w = .ok a w := fun _ _ _ _ _ => by kernel_rfl
  obtain ⟨W, hW⟩ : ∃ W, W = (w.alloc (.cells #[.int .i64 0, .int .i64 0, .int .i64 0, .int .i64 0, .bool false, .string ⟨#[]⟩, .int .i64 0, .int .i64 0, .bool false, .string ⟨#[]⟩] 158)).alloc (.cells #[.int .i64 c, .int .i64 0, .int .i64 0, .int .i64 0, .bool false, .string ⟨#[]⟩, .int .i64 0, .int .i64 0, .bool false, .string ⟨#[]⟩] 158) := ⟨_, rfl⟩
  have SW : Step w W := by rw [hW]; exact Step.of
  have HR0 : Hid (Blk W w.heap.size 158 [.int .i64 0, .int .i64 0, .int .i64 0, .int .i64 0, .bool false, .string ⟨#[]⟩, .int .i64 0, .int .i64 0, .bool false, .string ⟨#[]⟩]) := by rw [hW]; exact (Blk.new w [.int .i64 0, .int .i64 0, .int .i64 0, .int .i64 0, .bool false, .string ⟨#[]⟩, .int .i64 0, .int .i64 0, .bool false, .string ⟨#[]⟩] 158).alloc _
  have HM0 : Hid (Blk W (w.heap.size + 1) 158 [.int .i64 c, .int .i64 (nullsP (vs.take 0)), .int .i64 (minP (vs.take 0)).kind, .int .i64 (minP (vs.take 0)).i, .bool (minP (vs.take 0)).b, .string (minP (vs.take 0)).s, .int .i64 (maxP (vs.take 0)).kind, .int .i64 (maxP (vs.take 0)).i, .bool (maxP (vs.take 0)).b, .string (maxP (vs.take 0)).s]) := by rw [hW]; exact Blk.new_at (by simp) _ 158
  have HW := hide hW
  clear hW
  go_enter Tryz.func161, Tryz.ntmps161
  go_upto_region 2 with fail
  rw [← HW.out]
  go_wp2_with fail
  go_loopw [7, 12] (fun _ i wr => ∃ k : Nat, k ≤ vs.length ∧ i = .int .i64 k ∧ Blk wr w.heap.size 158 [.int .i64 0, .int .i64 0, .int .i64 0, .int .i64 0, .bool false, .string ⟨#[]⟩, .int .i64 0, .int .i64 0, .bool false, .string ⟨#[]⟩] ∧ Blk wr (w.heap.size + 1) 158 [.int .i64 c, .int .i64 (nullsP (vs.take k) : Int), .int .i64 (minP (vs.take k)).kind, .int .i64 (minP (vs.take k)).i, .bool (minP (vs.take k)).b, .string (minP (vs.take k)).s, .int .i64 (maxP (vs.take k)).kind, .int .i64 (maxP (vs.take k)).i, .bool (maxP (vs.take k)).b, .string (maxP (vs.take k)).s] ∧ Step w wr) (fun _ i _ => vs.length - (intOf i).toNat)
  case atStart => exact ⟨0, Nat.zero_le _, rfl, HR0.out, HM0.out, Step.of⟩
  case round =>
    clear HR0 HM0
    obtain ⟨k, hk, rfl, hres, hm, hst⟩ := hrel
    obtain ⟨wo, rfl⟩ : ∃ x : World, x = wr := ⟨_, rfl⟩
    have hzo := hst.size
    by_cases hlt : k < vs.length
    · obtain ⟨b, off, hA, hb, hc⟩ := h.elem (w' := wo) inferInstance (k := k) (by simpa using hlt)
      obtain ⟨v, hv⟩ : ∃ v, vs[k]? = some v := ⟨_, List.getElem?_eq_getElem hlt⟩
      obtain ⟨v0, v1, v2, v3⟩ := At.l4 (hc k v.cells (by simp [hv]))
      have hkl : (k : Int) < (vs.length : Int) := by omega
      have hk0 : (0 : Int) ≤ (k : Int) := by omega
      have hlb : b < wo.heap.size := by omega
      have HMK : Hid (selV lessV (minP (vs.take k)) v = minP (vs.take (k + 1))) := by
        show _ = _
        rw [List.take_add_one, hv]
        simp [minP]
      have HXK : Hid (selV (fun x y => lessV y x) (maxP (vs.take k)) v = maxP (vs.take (k + 1))) := by
        show _ = _
        rw [List.take_add_one, hv]
        simp [maxP]
      have HNK : Hid ((nullsP (vs.take (k + 1)) : Int) = (nullsP (vs.take k) : Int) + (if kindV v = 0 then 1 else 0)) := by
        show _ = _
        rw [List.take_add_one, hv]
        unfold nullsP
        rw [List.countP_append]
        by_cases h0 : kindV v = 0
        · simp [h0]
        · simp [h0]
      have hnb : (nullsP (vs.take k) : Int) ≤ k := by
        have := List.countP_le_length (p := fun v => kindV v == 0) (l := vs.take k)
        rw [List.length_take] at this
        unfold nullsP
        omega
      obtain ⟨m, hm_⟩ : ∃ m, minP (vs.take k) = m := ⟨_, rfl⟩
      obtain ⟨x, hx_⟩ : ∃ x, maxP (vs.take k) = x := ⟨_, rfl⟩
      obtain ⟨n, hn_⟩ : ∃ n, nullsP (vs.take k) = n := ⟨_, rfl⟩
      rw [hm_, hx_, hn_] at hm
      rw [hm_] at HMK
      rw [hx_] at HXK
      rw [hn_] at HNK hnb
      have PV := hide (plain_ag v)
      have L1 : Hid (∀ w', Calls Tryz.prog 182 #[.agg #[.int .i64 m.kind, .int .i64 m.i, .bool m.b, .string m.s], .agg #[.int .i64 v.kind, .int .i64 v.i, .bool v.b, .string v.s], .func (.func 183) #[] #[]] w' fun e w'' => e = .returned (.agg #[.int .i64 (selV lessV m v).kind, .int .i64 (selV lessV m v).i, .bool (selV lessV m v).b, .string (selV lessV m v).s]) ∧ Step w' w'') := fun w' => lesser_any 183 lessV m v w' (fun args w => by kernel_rfl) (fun x y w'' => pless_any x y w'')
      have L2 : Hid (∀ w', Calls Tryz.prog 182 #[.agg #[.int .i64 x.kind, .int .i64 x.i, .bool x.b, .string x.s], .agg #[.int .i64 v.kind, .int .i64 v.i, .bool v.b, .string v.s], .func (.func 184) #[] #[]] w' fun e w'' => e = .returned (.agg #[.int .i64 (selV (fun x y => lessV y x) x v).kind, .int .i64 (selV (fun x y => lessV y x) x v).i, .bool (selV (fun x y => lessV y x) x v).b, .string (selV (fun x y => lessV y x) x v).s]) ∧ Step w' w'') := fun w' => lesser_any 184 (fun x y => lessV y x) x v w' (fun args w => by kernel_rfl) (fun x y w'' => more_any x y w'')
      obtain ⟨W2, hW2⟩ : ∃ y : World, y = wo.alloc (.cells #[.int .i64 v.kind, .int .i64 v.i, .bool v.b, .string v.s] 36) := ⟨_, rfl⟩
      have SW2 : Step wo W2 := by rw [hW2]; exact Step.of
      have HV2 : Hid (Blk W2 wo.heap.size 36 [.int .i64 v.kind, .int .i64 v.i, .bool v.b, .string v.s]) := by rw [hW2]; exact Blk.new wo _ 36
      have HRES0 := hide (hres.fut (w' := W2))
      have HM1 := hide (hm.fut (w' := W2))
      have hoz : w.heap.size + 1 < wo.heap.size := hm.lt
      have HW2 := hide hW2
      rw [hA]
      clear hc hv hA hm_ hx_ hn_ hres hm hW2
      go_upto_region 5 with fail
      rw [HW2.out.symm]
      clear v0 v1 v2 v3
      obtain ⟨g0, g1, g2, g3⟩ := At.z4 (HV2.out.fut (w' := W2)).at0
      have lg := (HV2.out.fut (w' := W2)).lt
      by_cases h0 : kindV v = 0
      · have g0_ : (kindV v == 0) = true := by rw [h0]; rfl
        rw [if_pos h0] at HNK
        clear h0
        go_upto_region 6 with (go_at_call 109; (with_reducible refine (PV.out _).mono ?_); rintro e w4 ⟨rfl, hs4⟩)
        clear g0 g1 g2 g3 lg
        obtain ⟨m0, m1, m2, m3, m4, m5, m6, m7, m8, m9⟩ := At.z10 (HM1.out.fut (w' := w4)).at0
        have lm := (HM1.out.fut (w' := w4)).lt
        have fm := (HM1.out.fut (w' := w4)).free
        go_upto_region 7 with fail
        have HMS := hide ((HM1.out.fut (w' := w4)).set_ 1 (.int .i64 ((n : Int) + 1)))
        rw [← HNK.out] at HMS
        have HRES := hide ((HRES0.out.fut (w' := w4)).far (p := ⟨w.heap.size + 1, 1, none⟩) (by simp) (.int .i64 (nullsP (vs.take (k + 1)) : Int)))
        have HV3 := hide ((HV2.out.fut (w' := w4)).far (p := ⟨w.heap.size + 1, 1, none⟩) (by simp; omega) (.int .i64 (nullsP (vs.take (k + 1)) : Int)))
        rw [show ((n : Int) + 1) = (nullsP (vs.take (k + 1)) : Int) from HNK.out.symm]
        have hbq := (fut w w4).setCell (p := ⟨w.heap.size + 1, 1, none⟩) (by simp) (.int .i64 (nullsP (vs.take (k + 1)) : Int))
        obtain ⟨wq, hwq⟩ : ∃ y : World, y = w4.setCell ⟨w.heap.size + 1, 1, none⟩ (.int .i64 (nullsP (vs.take (k + 1)) : Int)) := ⟨_, rfl⟩
        rw [← hwq] at HMS HRES HV3 hbq
        rw [← hwq]
        clear hwq m0 m1 m2 m3 m4 m5 m6 m7 m8 m9 lm fm
        have hsq : Step w wq := ⟨hbq⟩
        have HM := hide HMS.out
        have hoq : wo.heap.size ≠ w.heap.size + 1 := by omega
        have hqz : w.heap.size + 1 ≤ wq.heap.size := by have := HM.out.lt; omega
        obtain ⟨m0, m1, m2, m3, m4, m5, m6, m7, m8, m9⟩ := At.z10 (HM.out.fut (w' := wq)).at0
        have lm := (HM.out.fut (w' := wq)).lt
        have fm := (HM.out.fut (w' := wq)).free
        obtain ⟨g0, g1, g2, g3⟩ := At.z4 (HV3.out.fut (w' := wq)).at0
        have lg := (HV3.out.fut (w' := wq)).lt
        refine wp_region_held_drew (S := (fun w' => Step w w' ∧ (∀ b o, b < wq.heap.size → b ≠ w.heap.size + 1 → w'.cell? ⟨b, o, none⟩ = wq.cell? ⟨b, o, none⟩))) (by kernel_rfl) (by (try dsimp only); (first | exact ⟨hS1, hS2⟩ | exact ⟨Step.of, fun b o h _ => (fut wq _).cell (p := ⟨b, o, none⟩) h⟩)) (fun hHeld => ?_)
        refine wT 0 24 (by assumption) ?_
        refine wT 2 26 (by assumption) ?_
        refine wT 4 28 (by assumption) ?_
        refine wT 6 30 (by assumption) ?_
        refine wpAnyH_ready (rs := [1, 5]) (by kernel_rfl) (by simp) ?_
        refine AllReadyH.cons (o := ⟨some 25, _, _, _, _, _⟩) rfl (fun K hK => ?_) (AllReadyH.cons (o := ⟨some 29, _, _, _, _, _⟩) rfl (fun K hK => ?_) AllReadyH.nil)
        · go_simp
          refine hK.out _ _ (by (try dsimp only); (first | exact ⟨hS1, hS2⟩ | exact ⟨Step.of, fun b o h _ => (fut wq _).cell (p := ⟨b, o, none⟩) h⟩)) (fun hHeld => ?_)
          clear hK K
          (try simp only [Act.put, List.setIfInBounds_toArray, List.set_cons_zero, List.set_cons_succ])
          refine wpAnyH_ready (rs := [3, 5]) (by kernel_rfl) (by simp) ?_
          refine AllReadyH.cons (o := ⟨some 27, _, _, _, _, _⟩) rfl (fun K hK => ?_) (AllReadyH.cons (o := ⟨some 29, _, _, _, _, _⟩) rfl (fun K hK => ?_) AllReadyH.nil)
          · obtain ⟨hS1, hS2⟩ := hHeld
            go_simp
            (go_at_call 182; (with_reducible refine (L1.out _).mono ?_); rintro e w5 ⟨rfl, hs5⟩; clear m0 m1 m2 m3 m4 m5 m6 m7 m8 m9 lm fm; obtain ⟨m0, m1, m2, m3, m4, m5, m6, m7, m8, m9⟩ := At.z10 (HM.out.fut (w' := w5)).at0; have lm := (HM.out.fut (w' := w5)).lt; have fm := (HM.out.fut (w' := w5)).free)
            refine hK.out _ _ (by (try dsimp only); (first | exact ⟨hS1, hS2⟩ | exact ⟨Step.of, fun b o h _ => (fut wq _).cell (p := ⟨b, o, none⟩) h⟩)) (fun hHeld => ?_)
            clear hK K
            (try simp only [Act.put, List.setIfInBounds_toArray, List.set_cons_zero, List.set_cons_succ])
            refine wpAnyH_ready (rs := [5]) (by kernel_rfl) (by simp) ?_
            refine AllReadyH.cons (o := ⟨some 29, _, _, _, _, _⟩) rfl (fun K hK => ?_) AllReadyH.nil
            go_simp
            refine hK.out _ _ (by (try dsimp only); (first | exact ⟨hS1, hS2⟩ | exact ⟨Step.of, fun b o h _ => (fut wq _).cell (p := ⟨b, o, none⟩) h⟩)) (fun hHeld => ?_)
            clear hK K
            (try simp only [Act.put, List.setIfInBounds_toArray, List.set_cons_zero, List.set_cons_succ])
            refine wT 8 32 (by assumption) ?_
            refine wpAnyH_ready (rs := [7]) (by kernel_rfl) (by simp) ?_
            refine AllReadyH.cons (o := ⟨some 31, _, _, _, _, _⟩) rfl (fun K hK => ?_) AllReadyH.nil
            obtain ⟨hS1, hS2⟩ := hHeld
            go_simp
            (go_at_call 182; (with_reducible refine (L2.out _).mono ?_); rintro e w6 ⟨rfl, hs6⟩; clear m0 m1 m2 m3 m4 m5 m6 m7 m8 m9 lm fm; obtain ⟨m0, m1, m2, m3, m4, m5, m6, m7, m8, m9⟩ := At.z10 (HM.out.fut (w' := w6)).at0; have lm := (HM.out.fut (w' := w6)).lt; have fm := (HM.out.fut (w' := w6)).free)
            refine hK.out _ _ (by (try dsimp only); (first | exact ⟨hS1, hS2⟩ | exact ⟨Step.of, fun b o h _ => (fut wq _).cell (p := ⟨b, o, none⟩) h⟩)) (fun hHeld => ?_)
            clear hK K
            (try simp only [Act.put, List.setIfInBounds_toArray, List.set_cons_zero, List.set_cons_succ])
            refine wpAnyH_ready (rs := [9]) (by kernel_rfl) (by simp) ?_
            refine AllReadyH.cons (o := ⟨none, _, _, _, _, _⟩) rfl (fun K hK => ?_) AllReadyH.nil
            go_simp
            refine hK.out _ _ (by (try dsimp only); (exact ⟨⟨set4_below (fut w w6) (by omega) 2 _⟩, fun b o h hn => (set4_cell w6 hn.symm 2 _ o).trans ((fut wq w6).cell (p := ⟨b, o, none⟩) h)⟩)) (fun hHeld => ?_)
            clear hK K
            (try simp only [Act.put, List.setIfInBounds_toArray, List.set_cons_zero, List.set_cons_succ])
            refine wT 10 33 (by assumption) ?_
            refine wpAnyH_ready (rs := [11]) (by kernel_rfl) (by simp) ?_
            refine AllReadyH.cons (o := ⟨none, _, _, _, _, _⟩) rfl (fun K hK => ?_) AllReadyH.nil
            go_simp
            refine hK.out _ _ (by (try dsimp only); (exact ⟨⟨set4_below (set4_below (fut w w6) (by omega) 2 _) (by omega) 6 _⟩, fun b o h hn => (set4_cell _ hn.symm 6 _ o).trans ((set4_cell w6 hn.symm 2 _ o).trans ((fut wq w6).cell (p := ⟨b, o, none⟩) h))⟩)) (fun hHeld => ?_)
            clear hK K
            (try simp only [Act.put, List.setIfInBounds_toArray, List.set_cons_zero, List.set_cons_succ])
            refine wpAnyH_done (by kernel_rfl) ?_ _
            have HM6 := hide (stat_put (HM.out.fut (w' := w6)) (selV lessV m v) (selV (fun x y => lessV y x) x v))
            have HR6 := hide (((HRES.out.fut (w' := w6)).grown (set4_grown w6 (w.heap.size + 1) 2 (selV lessV m v)) (by simp)).grown (set4_grown _ (w.heap.size + 1) 6 (selV (fun x y => lessV y x) x v)) (by simp))
            have hb6 : Below w.heap.size w _ := set4_below (set4_below (fut w w6) (Nat.le_add_right w.heap.size 1) 2 (selV lessV m v)) (Nat.le_add_right w.heap.size 1) 6 (selV (fun x y => lessV y x) x v)
            obtain ⟨X, hX⟩ : ∃ X : World, X = set4 (set4 w6 (w.heap.size + 1) 2 (selV lessV m v)) (w.heap.size + 1) 6 (selV (fun x y => lessV y x) x v) := ⟨_, rfl⟩
            rw [← hX] at HM6 HR6 hb6
            unfold set4 at hX
            rw [← hX]
            clear hX m0 m1 m2 m3 m4 m5 m6 m7 m8 m9 lm fm
            have hsX : Step w X := ⟨hb6⟩
            rw [HMK.out, HXK.out] at HM6
            go_wp2_with fail
            go_roundw
            case rel => exact ⟨k + 1, by omega, by go_num, HR6.out, HM6.out, Step.of⟩
            case measure => simp [intOf]; omega
          · go_simp
            refine hK.out _ _ (by (try dsimp only); (first | exact ⟨hS1, hS2⟩ | exact ⟨Step.of, fun b o h _ => (fut wq _).cell (p := ⟨b, o, none⟩) h⟩)) (fun hHeld => ?_)
            clear hK K
            (try simp only [Act.put, List.setIfInBounds_toArray, List.set_cons_zero, List.set_cons_succ])
            refine wpAnyH_ready (rs := [3]) (by kernel_rfl) (by simp) ?_
            refine AllReadyH.cons (o := ⟨some 27, _, _, _, _, _⟩) rfl (fun K hK => ?_) AllReadyH.nil
            obtain ⟨hS1, hS2⟩ := hHeld
            go_simp
            (go_at_call 182; (with_reducible refine (L1.out _).mono ?_); rintro e w5 ⟨rfl, hs5⟩; clear m0 m1 m2 m3 m4 m5 m6 m7 m8 m9 lm fm; obtain ⟨m0, m1, m2, m3, m4, m5, m6, m7, m8, m9⟩ := At.z10 (HM.out.fut (w' := w5)).at0; have lm := (HM.out.fut (w' := w5)).lt; have fm := (HM.out.fut (w' := w5)).free)
            refine hK.out _ _ (by (try dsimp only); (first | exact ⟨hS1, hS2⟩ | exact ⟨Step.of, fun b o h _ => (fut wq _).cell (p := ⟨b, o, none⟩) h⟩)) (fun hHeld => ?_)
            clear hK K
            (try simp only [Act.put, List.setIfInBounds_toArray, List.set_cons_zero, List.set_cons_succ])
            refine wT 8 32 (by assumption) ?_
            refine wpAnyH_ready (rs := [7]) (by kernel_rfl) (by simp) ?_
            refine AllReadyH.cons (o := ⟨some 31, _, _, _, _, _⟩) rfl (fun K hK => ?_) AllReadyH.nil
            obtain ⟨hS1, hS2⟩ := hHeld
            go_simp
            (go_at_call 182; (with_reducible refine (L2.out _).mono ?_); rintro e w6 ⟨rfl, hs6⟩; clear m0 m1 m2 m3 m4 m5 m6 m7 m8 m9 lm fm; obtain ⟨m0, m1, m2, m3, m4, m5, m6, m7, m8, m9⟩ := At.z10 (HM.out.fut (w' := w6)).at0; have lm := (HM.out.fut (w' := w6)).lt; have fm := (HM.out.fut (w' := w6)).free)
            refine hK.out _ _ (by (try dsimp only); (first | exact ⟨hS1, hS2⟩ | exact ⟨Step.of, fun b o h _ => (fut wq _).cell (p := ⟨b, o, none⟩) h⟩)) (fun hHeld => ?_)
            clear hK K
            (try simp only [Act.put, List.setIfInBounds_toArray, List.set_cons_zero, List.set_cons_succ])
            refine wpAnyH_ready (rs := [9]) (by kernel_rfl) (by simp) ?_
            refine AllReadyH.cons (o := ⟨none, _, _, _, _, _⟩) rfl (fun K hK => ?_) AllReadyH.nil
            go_simp
            refine hK.out _ _ (by (try dsimp only); (exact ⟨⟨set4_below (fut w w6) (by omega) 2 _⟩, fun b o h hn => (set4_cell w6 hn.symm 2 _ o).trans ((fut wq w6).cell (p := ⟨b, o, none⟩) h)⟩)) (fun hHeld => ?_)
            clear hK K
            (try simp only [Act.put, List.setIfInBounds_toArray, List.set_cons_zero, List.set_cons_succ])
            refine wT 10 33 (by assumption) ?_
            refine wpAnyH_ready (rs := [11]) (by kernel_rfl) (by simp) ?_
            refine AllReadyH.cons (o := ⟨none, _, _, _, _, _⟩) rfl (fun K hK => ?_) AllReadyH.nil
            go_simp
            refine hK.out _ _ (by (try dsimp only); (exact ⟨⟨set4_below (set4_below (fut w w6) (by omega) 2 _) (by omega) 6 _⟩, fun b o h hn => (set4_cell _ hn.symm 6 _ o).trans ((set4_cell w6 hn.symm 2 _ o).trans ((fut wq w6).cell (p := ⟨b, o, none⟩) h))⟩)) (fun hHeld => ?_)
            clear hK K
            (try simp only [Act.put, List.setIfInBounds_toArray, List.set_cons_zero, List.set_cons_succ])
            refine wpAnyH_done (by kernel_rfl) ?_ _
            have HM6 := hide (stat_put (HM.out.fut (w' := w6)) (selV lessV m v) (selV (fun x y => lessV y x) x v))
            have HR6 := hide (((HRES.out.fut (w' := w6)).grown (set4_grown w6 (w.heap.size + 1) 2 (selV lessV m v)) (by simp)).grown (set4_grown _ (w.heap.size + 1) 6 (selV (fun x y => lessV y x) x v)) (by simp))
            have hb6 : Below w.heap.size w _ := set4_below (set4_below (fut w w6) (Nat.le_add_right w.heap.size 1) 2 (selV lessV m v)) (Nat.le_add_right w.heap.size 1) 6 (selV (fun x y => lessV y x) x v)
            obtain ⟨X, hX⟩ : ∃ X : World, X = set4 (set4 w6 (w.heap.size + 1) 2 (selV lessV m v)) (w.heap.size + 1) 6 (selV (fun x y => lessV y x) x v) := ⟨_, rfl⟩
            rw [← hX] at HM6 HR6 hb6
            unfold set4 at hX
            rw [← hX]
            clear hX m0 m1 m2 m3 m4 m5 m6 m7 m8 m9 lm fm
            have hsX : Step w X := ⟨hb6⟩
            rw [HMK.out, HXK.out] at HM6
            go_wp2_with fail
            go_roundw
            case rel => exact ⟨k + 1, by omega, by go_num, HR6.out, HM6.out, Step.of⟩
            case measure => simp [intOf]; omega
        · go_simp
          refine hK.out _ _ (by (try dsimp only); (first | exact ⟨hS1, hS2⟩ | exact ⟨Step.of, fun b o h _ => (fut wq _).cell (p := ⟨b, o, none⟩) h⟩)) (fun hHeld => ?_)
          clear hK K
          (try simp only [Act.put, List.setIfInBounds_toArray, List.set_cons_zero, List.set_cons_succ])
          refine wpAnyH_ready (rs := [1]) (by kernel_rfl) (by simp) ?_
          refine AllReadyH.cons (o := ⟨some 25, _, _, _, _, _⟩) rfl (fun K hK => ?_) AllReadyH.nil
          go_simp
          refine hK.out _ _ (by (try dsimp only); (first | exact ⟨hS1, hS2⟩ | exact ⟨Step.of, fun b o h _ => (fut wq _).cell (p := ⟨b, o, none⟩) h⟩)) (fun hHeld => ?_)
          clear hK K
          (try simp only [Act.put, List.setIfInBounds_toArray, List.set_cons_zero, List.set_cons_succ])
          refine wpAnyH_ready (rs := [3]) (by kernel_rfl) (by simp) ?_
          refine AllReadyH.cons (o := ⟨some 27, _, _, _, _, _⟩) rfl (fun K hK => ?_) AllReadyH.nil
          obtain ⟨hS1, hS2⟩ := hHeld
          go_simp
          (go_at_call 182; (with_reducible refine (L1.out _).mono ?_); rintro e w5 ⟨rfl, hs5⟩; clear m0 m1 m2 m3 m4 m5 m6 m7 m8 m9 lm fm; obtain ⟨m0, m1, m2, m3, m4, m5, m6, m7, m8, m9⟩ := At.z10 (HM.out.fut (w' := w5)).at0; have lm := (HM.out.fut (w' := w5)).lt; have fm := (HM.out.fut (w' := w5)).free)
          refine hK.out _ _ (by (try dsimp only); (first | exact ⟨hS1, hS2⟩ | exact ⟨Step.of, fun b o h _ => (fut wq _).cell (p := ⟨b, o, none⟩) h⟩)) (fun hHeld => ?_)
          clear hK K
          (try simp only [Act.put, List.setIfInBounds_toArray, List.set_cons_zero, List.set_cons_succ])
          refine wT 8 32 (by assumption) ?_
          refine wpAnyH_ready (rs := [7]) (by kernel_rfl) (by simp) ?_
          refine AllReadyH.cons (o := ⟨some 31, _, _, _, _, _⟩) rfl (fun K hK => ?_) AllReadyH.nil
          obtain ⟨hS1, hS2⟩ := hHeld
          go_simp
          (go_at_call 182; (with_reducible refine (L2.out _).mono ?_); rintro e w6 ⟨rfl, hs6⟩; clear m0 m1 m2 m3 m4 m5 m6 m7 m8 m9 lm fm; obtain ⟨m0, m1, m2, m3, m4, m5, m6, m7, m8, m9⟩ := At.z10 (HM.out.fut (w' := w6)).at0; have lm := (HM.out.fut (w' := w6)).lt; have fm := (HM.out.fut (w' := w6)).free)
          refine hK.out _ _ (by (try dsimp only); (first | exact ⟨hS1, hS2⟩ | exact ⟨Step.of, fun b o h _ => (fut wq _).cell (p := ⟨b, o, none⟩) h⟩)) (fun hHeld => ?_)
          clear hK K
          (try simp only [Act.put, List.setIfInBounds_toArray, List.set_cons_zero, List.set_cons_succ])
          refine wpAnyH_ready (rs := [9]) (by kernel_rfl) (by simp) ?_
          refine AllReadyH.cons (o := ⟨none, _, _, _, _, _⟩) rfl (fun K hK => ?_) AllReadyH.nil
          go_simp
          refine hK.out _ _ (by (try dsimp only); (exact ⟨⟨set4_below (fut w w6) (by omega) 2 _⟩, fun b o h hn => (set4_cell w6 hn.symm 2 _ o).trans ((fut wq w6).cell (p := ⟨b, o, none⟩) h)⟩)) (fun hHeld => ?_)
          clear hK K
          (try simp only [Act.put, List.setIfInBounds_toArray, List.set_cons_zero, List.set_cons_succ])
          refine wT 10 33 (by assumption) ?_
          refine wpAnyH_ready (rs := [11]) (by kernel_rfl) (by simp) ?_
          refine AllReadyH.cons (o := ⟨none, _, _, _, _, _⟩) rfl (fun K hK => ?_) AllReadyH.nil
          go_simp
          refine hK.out _ _ (by (try dsimp only); (exact ⟨⟨set4_below (set4_below (fut w w6) (by omega) 2 _) (by omega) 6 _⟩, fun b o h hn => (set4_cell _ hn.symm 6 _ o).trans ((set4_cell w6 hn.symm 2 _ o).trans ((fut wq w6).cell (p := ⟨b, o, none⟩) h))⟩)) (fun hHeld => ?_)
          clear hK K
          (try simp only [Act.put, List.setIfInBounds_toArray, List.set_cons_zero, List.set_cons_succ])
          refine wpAnyH_done (by kernel_rfl) ?_ _
          have HM6 := hide (stat_put (HM.out.fut (w' := w6)) (selV lessV m v) (selV (fun x y => lessV y x) x v))
          have HR6 := hide (((HRES.out.fut (w' := w6)).grown (set4_grown w6 (w.heap.size + 1) 2 (selV lessV m v)) (by simp)).grown (set4_grown _ (w.heap.size + 1) 6 (selV (fun x y => lessV y x) x v)) (by simp))
          have hb6 : Below w.heap.size w _ := set4_below (set4_below (fut w w6) (Nat.le_add_right w.heap.size 1) 2 (selV lessV m v)) (Nat.le_add_right w.heap.size 1) 6 (selV (fun x y => lessV y x) x v)
          obtain ⟨X, hX⟩ : ∃ X : World, X = set4 (set4 w6 (w.heap.size + 1) 2 (selV lessV m v)) (w.heap.size + 1) 6 (selV (fun x y => lessV y x) x v) := ⟨_, rfl⟩
          rw [← hX] at HM6 HR6 hb6
          unfold set4 at hX
          rw [← hX]
          clear hX m0 m1 m2 m3 m4 m5 m6 m7 m8 m9 lm fm
          have hsX : Step w X := ⟨hb6⟩
          rw [HMK.out, HXK.out] at HM6
          go_wp2_with fail
          go_roundw
          case rel => exact ⟨k + 1, by omega, by go_num, HR6.out, HM6.out, Step.of⟩
          case measure => simp [intOf]; omega
      · have g0_ : (kindV v == 0) = false := beq_eq_false_iff_ne.2 h0
        rw [if_neg h0, Int.add_zero] at HNK
        clear h0
        go_upto_region 7 with (go_at_call 109; (with_reducible refine (PV.out _).mono ?_); rintro e w4 ⟨rfl, hs4⟩)
        clear g0 g1 g2 g3 lg
        obtain ⟨wq, hwq⟩ : ∃ y : World, y = w4 := ⟨_, rfl⟩
        rw [← hwq] at hs4 ⊢
        clear hwq
        have HM := hide (HM1.out.fut (w' := wq))
        rw [← HNK.out] at HM
        have HRES := hide (HRES0.out.fut (w' := wq))
        have HV3 := hide (HV2.out.fut (w' := wq))
        have hoq : wo.heap.size ≠ w.heap.size + 1 := by omega
        have hqz : w.heap.size + 1 ≤ wq.heap.size := by have := HM.out.lt; omega
        obtain ⟨m0, m1, m2, m3, m4, m5, m6, m7, m8, m9⟩ := At.z10 (HM.out.fut (w' := wq)).at0
        have lm := (HM.out.fut (w' := wq)).lt
        have fm := (HM.out.fut (w' := wq)).free
        obtain ⟨g0, g1, g2, g3⟩ := At.z4 (HV3.out.fut (w' := wq)).at0
        have lg := (HV3.out.fut (w' := wq)).lt
        refine wp_region_held_drew (S := (fun w' => Step w w' ∧ (∀ b o, b < wq.heap.size → b ≠ w.heap.size + 1 → w'.cell? ⟨b, o, none⟩ = wq.cell? ⟨b, o, none⟩))) (by kernel_rfl) (by (try dsimp only); (first | exact ⟨hS1, hS2⟩ | exact ⟨Step.of, fun b o h _ => (fut wq _).cell (p := ⟨b, o, none⟩) h⟩)) (fun hHeld => ?_)
        refine wT 0 24 (by assumption) ?_
        refine wT 2 26 (by assumption) ?_
        refine wT 4 28 (by assumption) ?_
        refine wT 6 30 (by assumption) ?_
        refine wpAnyH_ready (rs := [1, 5]) (by kernel_rfl) (by simp) ?_
        refine AllReadyH.cons (o := ⟨some 25, _, _, _, _, _⟩) rfl (fun K hK => ?_) (AllReadyH.cons (o := ⟨some 29, _, _, _, _, _⟩) rfl (fun K hK => ?_) AllReadyH.nil)
        · go_simp
          refine hK.out _ _ (by (try dsimp only); (first | exact ⟨hS1, hS2⟩ | exact ⟨Step.of, fun b o h _ => (fut wq _).cell (p := ⟨b, o, none⟩) h⟩)) (fun hHeld => ?_)
          clear hK K
          (try simp only [Act.put, List.setIfInBounds_toArray, List.set_cons_zero, List.set_cons_succ])
          refine wpAnyH_ready (rs := [3, 5]) (by kernel_rfl) (by simp) ?_
          refine AllReadyH.cons (o := ⟨some 27, _, _, _, _, _⟩) rfl (fun K hK => ?_) (AllReadyH.cons (o := ⟨some 29, _, _, _, _, _⟩) rfl (fun K hK => ?_) AllReadyH.nil)
          · obtain ⟨hS1, hS2⟩ := hHeld
            go_simp
            (go_at_call 182; (with_reducible refine (L1.out _).mono ?_); rintro e w5 ⟨rfl, hs5⟩; clear m0 m1 m2 m3 m4 m5 m6 m7 m8 m9 lm fm; obtain ⟨m0, m1, m2, m3, m4, m5, m6, m7, m8, m9⟩ := At.z10 (HM.out.fut (w' := w5)).at0; have lm := (HM.out.fut (w' := w5)).lt; have fm := (HM.out.fut (w' := w5)).free)
            refine hK.out _ _ (by (try dsimp only); (first | exact ⟨hS1, hS2⟩ | exact ⟨Step.of, fun b o h _ => (fut wq _).cell (p := ⟨b, o, none⟩) h⟩)) (fun hHeld => ?_)
            clear hK K
            (try simp only [Act.put, List.setIfInBounds_toArray, List.set_cons_zero, List.set_cons_succ])
            refine wpAnyH_ready (rs := [5]) (by kernel_rfl) (by simp) ?_
            refine AllReadyH.cons (o := ⟨some 29, _, _, _, _, _⟩) rfl (fun K hK => ?_) AllReadyH.nil
            go_simp
            refine hK.out _ _ (by (try dsimp only); (first | exact ⟨hS1, hS2⟩ | exact ⟨Step.of, fun b o h _ => (fut wq _).cell (p := ⟨b, o, none⟩) h⟩)) (fun hHeld => ?_)
            clear hK K
            (try simp only [Act.put, List.setIfInBounds_toArray, List.set_cons_zero, List.set_cons_succ])
            refine wT 8 32 (by assumption) ?_
            refine wpAnyH_ready (rs := [7]) (by kernel_rfl) (by simp) ?_
            refine AllReadyH.cons (o := ⟨some 31, _, _, _, _, _⟩) rfl (fun K hK => ?_) AllReadyH.nil
            obtain ⟨hS1, hS2⟩ := hHeld
            go_simp
            (go_at_call 182; (with_reducible refine (L2.out _).mono ?_); rintro e w6 ⟨rfl, hs6⟩; clear m0 m1 m2 m3 m4 m5 m6 m7 m8 m9 lm fm; obtain ⟨m0, m1, m2, m3, m4, m5, m6, m7, m8, m9⟩ := At.z10 (HM.out.fut (w' := w6)).at0; have lm := (HM.out.fut (w' := w6)).lt; have fm := (HM.out.fut (w' := w6)).free)
            refine hK.out _ _ (by (try dsimp only); (first | exact ⟨hS1, hS2⟩ | exact ⟨Step.of, fun b o h _ => (fut wq _).cell (p := ⟨b, o, none⟩) h⟩)) (fun hHeld => ?_)
            clear hK K
            (try simp only [Act.put, List.setIfInBounds_toArray, List.set_cons_zero, List.set_cons_succ])
            refine wpAnyH_ready (rs := [9]) (by kernel_rfl) (by simp) ?_
            refine AllReadyH.cons (o := ⟨none, _, _, _, _, _⟩) rfl (fun K hK => ?_) AllReadyH.nil
            go_simp
            refine hK.out _ _ (by (try dsimp only); (exact ⟨⟨set4_below (fut w w6) (by omega) 2 _⟩, fun b o h hn => (set4_cell w6 hn.symm 2 _ o).trans ((fut wq w6).cell (p := ⟨b, o, none⟩) h)⟩)) (fun hHeld => ?_)
            clear hK K
            (try simp only [Act.put, List.setIfInBounds_toArray, List.set_cons_zero, List.set_cons_succ])
            refine wT 10 33 (by assumption) ?_
            refine wpAnyH_ready (rs := [11]) (by kernel_rfl) (by simp) ?_
            refine AllReadyH.cons (o := ⟨none, _, _, _, _, _⟩) rfl (fun K hK => ?_) AllReadyH.nil
            go_simp
            refine hK.out _ _ (by (try dsimp only); (exact ⟨⟨set4_below (set4_below (fut w w6) (by omega) 2 _) (by omega) 6 _⟩, fun b o h hn => (set4_cell _ hn.symm 6 _ o).trans ((set4_cell w6 hn.symm 2 _ o).trans ((fut wq w6).cell (p := ⟨b, o, none⟩) h))⟩)) (fun hHeld => ?_)
            clear hK K
            (try simp only [Act.put, List.setIfInBounds_toArray, List.set_cons_zero, List.set_cons_succ])
            refine wpAnyH_done (by kernel_rfl) ?_ _
            have HM6 := hide (stat_put (HM.out.fut (w' := w6)) (selV lessV m v) (selV (fun x y => lessV y x) x v))
            have HR6 := hide (((HRES.out.fut (w' := w6)).grown (set4_grown w6 (w.heap.size + 1) 2 (selV lessV m v)) (by simp)).grown (set4_grown _ (w.heap.size + 1) 6 (selV (fun x y => lessV y x) x v)) (by simp))
            have hb6 : Below w.heap.size w _ := set4_below (set4_below (fut w w6) (Nat.le_add_right w.heap.size 1) 2 (selV lessV m v)) (Nat.le_add_right w.heap.size 1) 6 (selV (fun x y => lessV y x) x v)
            obtain ⟨X, hX⟩ : ∃ X : World, X = set4 (set4 w6 (w.heap.size + 1) 2 (selV lessV m v)) (w.heap.size + 1) 6 (selV (fun x y => lessV y x) x v) := ⟨_, rfl⟩
            rw [← hX] at HM6 HR6 hb6
            unfold set4 at hX
            rw [← hX]
            clear hX m0 m1 m2 m3 m4 m5 m6 m7 m8 m9 lm fm
            have hsX : Step w X := ⟨hb6⟩
            rw [HMK.out, HXK.out] at HM6
            go_wp2_with fail
            go_roundw
            case rel => exact ⟨k + 1, by omega, by go_num, HR6.out, HM6.out, Step.of⟩
            case measure => simp [intOf]; omega
          · go_simp
            refine hK.out _ _ (by (try dsimp only); (first | exact ⟨hS1, hS2⟩ | exact ⟨Step.of, fun b o h _ => (fut wq _).cell (p := ⟨b, o, none⟩) h⟩)) (fun hHeld => ?_)
            clear hK K
            (try simp only [Act.put, List.setIfInBounds_toArray, List.set_cons_zero, List.set_cons_succ])
            refine wpAnyH_ready (rs := [3]) (by kernel_rfl) (by simp) ?_
            refine AllReadyH.cons (o := ⟨some 27, _, _, _, _, _⟩) rfl (fun K hK => ?_) AllReadyH.nil
            obtain ⟨hS1, hS2⟩ := hHeld
            go_simp
            (go_at_call 182; (with_reducible refine (L1.out _).mono ?_); rintro e w5 ⟨rfl, hs5⟩; clear m0 m1 m2 m3 m4 m5 m6 m7 m8 m9 lm fm; obtain ⟨m0, m1, m2, m3, m4, m5, m6, m7, m8, m9⟩ := At.z10 (HM.out.fut (w' := w5)).at0; have lm := (HM.out.fut (w' := w5)).lt; have fm := (HM.out.fut (w' := w5)).free)
            refine hK.out _ _ (by (try dsimp only); (first | exact ⟨hS1, hS2⟩ | exact ⟨Step.of, fun b o h _ => (fut wq _).cell (p := ⟨b, o, none⟩) h⟩)) (fun hHeld => ?_)
            clear hK K
            (try simp only [Act.put, List.setIfInBounds_toArray, List.set_cons_zero, List.set_cons_succ])
            refine wT 8 32 (by assumption) ?_
            refine wpAnyH_ready (rs := [7]) (by kernel_rfl) (by simp) ?_
            refine AllReadyH.cons (o := ⟨some 31, _, _, _, _, _⟩) rfl (fun K hK => ?_) AllReadyH.nil
            obtain ⟨hS1, hS2⟩ := hHeld
            go_simp
            (go_at_call 182; (with_reducible refine (L2.out _).mono ?_); rintro e w6 ⟨rfl, hs6⟩; clear m0 m1 m2 m3 m4 m5 m6 m7 m8 m9 lm fm; obtain ⟨m0, m1, m2, m3, m4, m5, m6, m7, m8, m9⟩ := At.z10 (HM.out.fut (w' := w6)).at0; have lm := (HM.out.fut (w' := w6)).lt; have fm := (HM.out.fut (w' := w6)).free)
            refine hK.out _ _ (by (try dsimp only); (first | exact ⟨hS1, hS2⟩ | exact ⟨Step.of, fun b o h _ => (fut wq _).cell (p := ⟨b, o, none⟩) h⟩)) (fun hHeld => ?_)
            clear hK K
            (try simp only [Act.put, List.setIfInBounds_toArray, List.set_cons_zero, List.set_cons_succ])
            refine wpAnyH_ready (rs := [9]) (by kernel_rfl) (by simp) ?_
            refine AllReadyH.cons (o := ⟨none, _, _, _, _, _⟩) rfl (fun K hK => ?_) AllReadyH.nil
            go_simp
            refine hK.out _ _ (by (try dsimp only); (exact ⟨⟨set4_below (fut w w6) (by omega) 2 _⟩, fun b o h hn => (set4_cell w6 hn.symm 2 _ o).trans ((fut wq w6).cell (p := ⟨b, o, none⟩) h)⟩)) (fun hHeld => ?_)
            clear hK K
            (try simp only [Act.put, List.setIfInBounds_toArray, List.set_cons_zero, List.set_cons_succ])
            refine wT 10 33 (by assumption) ?_
            refine wpAnyH_ready (rs := [11]) (by kernel_rfl) (by simp) ?_
            refine AllReadyH.cons (o := ⟨none, _, _, _, _, _⟩) rfl (fun K hK => ?_) AllReadyH.nil
            go_simp
            refine hK.out _ _ (by (try dsimp only); (exact ⟨⟨set4_below (set4_below (fut w w6) (by omega) 2 _) (by omega) 6 _⟩, fun b o h hn => (set4_cell _ hn.symm 6 _ o).trans ((set4_cell w6 hn.symm 2 _ o).trans ((fut wq w6).cell (p := ⟨b, o, none⟩) h))⟩)) (fun hHeld => ?_)
            clear hK K
            (try simp only [Act.put, List.setIfInBounds_toArray, List.set_cons_zero, List.set_cons_succ])
            refine wpAnyH_done (by kernel_rfl) ?_ _
            have HM6 := hide (stat_put (HM.out.fut (w' := w6)) (selV lessV m v) (selV (fun x y => lessV y x) x v))
            have HR6 := hide (((HRES.out.fut (w' := w6)).grown (set4_grown w6 (w.heap.size + 1) 2 (selV lessV m v)) (by simp)).grown (set4_grown _ (w.heap.size + 1) 6 (selV (fun x y => lessV y x) x v)) (by simp))
            have hb6 : Below w.heap.size w _ := set4_below (set4_below (fut w w6) (Nat.le_add_right w.heap.size 1) 2 (selV lessV m v)) (Nat.le_add_right w.heap.size 1) 6 (selV (fun x y => lessV y x) x v)
            obtain ⟨X, hX⟩ : ∃ X : World, X = set4 (set4 w6 (w.heap.size + 1) 2 (selV lessV m v)) (w.heap.size + 1) 6 (selV (fun x y => lessV y x) x v) := ⟨_, rfl⟩
            rw [← hX] at HM6 HR6 hb6
            unfold set4 at hX
            rw [← hX]
            clear hX m0 m1 m2 m3 m4 m5 m6 m7 m8 m9 lm fm
            have hsX : Step w X := ⟨hb6⟩
            rw [HMK.out, HXK.out] at HM6
            go_wp2_with fail
            go_roundw
            case rel => exact ⟨k + 1, by omega, by go_num, HR6.out, HM6.out, Step.of⟩
            case measure => simp [intOf]; omega
        · go_simp
          refine hK.out _ _ (by (try dsimp only); (first | exact ⟨hS1, hS2⟩ | exact ⟨Step.of, fun b o h _ => (fut wq _).cell (p := ⟨b, o, none⟩) h⟩)) (fun hHeld => ?_)
          clear hK K
          (try simp only [Act.put, List.setIfInBounds_toArray, List.set_cons_zero, List.set_cons_succ])
          refine wpAnyH_ready (rs := [1]) (by kernel_rfl) (by simp) ?_
          refine AllReadyH.cons (o := ⟨some 25, _, _, _, _, _⟩) rfl (fun K hK => ?_) AllReadyH.nil
          go_simp
          refine hK.out _ _ (by (try dsimp only); (first | exact ⟨hS1, hS2⟩ | exact ⟨Step.of, fun b o h _ => (fut wq _).cell (p := ⟨b, o, none⟩) h⟩)) (fun hHeld => ?_)
          clear hK K
          (try simp only [Act.put, List.setIfInBounds_toArray, List.set_cons_zero, List.set_cons_succ])
          refine wpAnyH_ready (rs := [3]) (by kernel_rfl) (by simp) ?_
          refine AllReadyH.cons (o := ⟨some 27, _, _, _, _, _⟩) rfl (fun K hK => ?_) AllReadyH.nil
          obtain ⟨hS1, hS2⟩ := hHeld
          go_simp
          (go_at_call 182; (with_reducible refine (L1.out _).mono ?_); rintro e w5 ⟨rfl, hs5⟩; clear m0 m1 m2 m3 m4 m5 m6 m7 m8 m9 lm fm; obtain ⟨m0, m1, m2, m3, m4, m5, m6, m7, m8, m9⟩ := At.z10 (HM.out.fut (w' := w5)).at0; have lm := (HM.out.fut (w' := w5)).lt; have fm := (HM.out.fut (w' := w5)).free)
          refine hK.out _ _ (by (try dsimp only); (first | exact ⟨hS1, hS2⟩ | exact ⟨Step.of, fun b o h _ => (fut wq _).cell (p := ⟨b, o, none⟩) h⟩)) (fun hHeld => ?_)
          clear hK K
          (try simp only [Act.put, List.setIfInBounds_toArray, List.set_cons_zero, List.set_cons_succ])
          refine wT 8 32 (by assumption) ?_
          refine wpAnyH_ready (rs := [7]) (by kernel_rfl) (by simp) ?_
          refine AllReadyH.cons (o := ⟨some 31, _, _, _, _, _⟩) rfl (fun K hK => ?_) AllReadyH.nil
          obtain ⟨hS1, hS2⟩ := hHeld
          go_simp
          (go_at_call 182; (with_reducible refine (L2.out _).mono ?_); rintro e w6 ⟨rfl, hs6⟩; clear m0 m1 m2 m3 m4 m5 m6 m7 m8 m9 lm fm; obtain ⟨m0, m1, m2, m3, m4, m5, m6, m7, m8, m9⟩ := At.z10 (HM.out.fut (w' := w6)).at0; have lm := (HM.out.fut (w' := w6)).lt; have fm := (HM.out.fut (w' := w6)).free)
          refine hK.out _ _ (by (try dsimp only); (first | exact ⟨hS1, hS2⟩ | exact ⟨Step.of, fun b o h _ => (fut wq _).cell (p := ⟨b, o, none⟩) h⟩)) (fun hHeld => ?_)
          clear hK K
          (try simp only [Act.put, List.setIfInBounds_toArray, List.set_cons_zero, List.set_cons_succ])
          refine wpAnyH_ready (rs := [9]) (by kernel_rfl) (by simp) ?_
          refine AllReadyH.cons (o := ⟨none, _, _, _, _, _⟩) rfl (fun K hK => ?_) AllReadyH.nil
          go_simp
          refine hK.out _ _ (by (try dsimp only); (exact ⟨⟨set4_below (fut w w6) (by omega) 2 _⟩, fun b o h hn => (set4_cell w6 hn.symm 2 _ o).trans ((fut wq w6).cell (p := ⟨b, o, none⟩) h)⟩)) (fun hHeld => ?_)
          clear hK K
          (try simp only [Act.put, List.setIfInBounds_toArray, List.set_cons_zero, List.set_cons_succ])
          refine wT 10 33 (by assumption) ?_
          refine wpAnyH_ready (rs := [11]) (by kernel_rfl) (by simp) ?_
          refine AllReadyH.cons (o := ⟨none, _, _, _, _, _⟩) rfl (fun K hK => ?_) AllReadyH.nil
          go_simp
          refine hK.out _ _ (by (try dsimp only); (exact ⟨⟨set4_below (set4_below (fut w w6) (by omega) 2 _) (by omega) 6 _⟩, fun b o h hn => (set4_cell _ hn.symm 6 _ o).trans ((set4_cell w6 hn.symm 2 _ o).trans ((fut wq w6).cell (p := ⟨b, o, none⟩) h))⟩)) (fun hHeld => ?_)
          clear hK K
          (try simp only [Act.put, List.setIfInBounds_toArray, List.set_cons_zero, List.set_cons_succ])
          refine wpAnyH_done (by kernel_rfl) ?_ _
          have HM6 := hide (stat_put (HM.out.fut (w' := w6)) (selV lessV m v) (selV (fun x y => lessV y x) x v))
          have HR6 := hide (((HRES.out.fut (w' := w6)).grown (set4_grown w6 (w.heap.size + 1) 2 (selV lessV m v)) (by simp)).grown (set4_grown _ (w.heap.size + 1) 6 (selV (fun x y => lessV y x) x v)) (by simp))
          have hb6 : Below w.heap.size w _ := set4_below (set4_below (fut w w6) (Nat.le_add_right w.heap.size 1) 2 (selV lessV m v)) (Nat.le_add_right w.heap.size 1) 6 (selV (fun x y => lessV y x) x v)
          obtain ⟨X, hX⟩ : ∃ X : World, X = set4 (set4 w6 (w.heap.size + 1) 2 (selV lessV m v)) (w.heap.size + 1) 6 (selV (fun x y => lessV y x) x v) := ⟨_, rfl⟩
          rw [← hX] at HM6 HR6 hb6
          unfold set4 at hX
          rw [← hX]
          clear hX m0 m1 m2 m3 m4 m5 m6 m7 m8 m9 lm fm
          have hsX : Step w X := ⟨hb6⟩
          rw [HMK.out, HXK.out] at HM6
          go_wp2_with fail
          go_roundw
          case rel => exact ⟨k + 1, by omega, by go_num, HR6.out, HM6.out, Step.of⟩
          case measure => simp [intOf]; omega
    · obtain rfl : k = vs.length := by omega
      rw [List.take_length] at hm
      obtain ⟨m0, m1, m2, m3, m4, m5, m6, m7, m8, m9⟩ := At.z10 hm.at0
      have lm := hm.lt
      obtain ⟨r0, r1, r2, r3, r4, r5, r6, r7, r8, r9⟩ := At.z10 hres.at0
      have lr := hres.lt
      have fr := hres.free
      clear hm hres
      go_wp2_with fail
      refine bodyPost_ret (v := .agg #[.int .i64 c, .int .i64 (nullsP vs : Int), .int .i64 (minP vs).kind, .int .i64 (minP vs).i, .bool (minP vs).b, .string (minP vs).s, .int .i64 (maxP vs).kind, .int .i64 (maxP vs).i, .bool (maxP vs).b, .string (maxP vs).s]) (by simp [results, Tryz.results161, go_sem, r0, r1, r2, r3, r4, r5, r6, r7, r8, r9]) rfl ?_
      exact ⟨rfl, Step.of⟩
end Go.Proofs.YtnphokhehacfnaaGreatDoor

namespace Go.Proofs.YtnphokhehacfnaaGreatDoor
open Go.RowKit

theorem run_adds (x y : Int) (hx : 0 ≤ x) (hy : 0 ≤ y) (w : World) :
    (callFunc 185 #[.int .u64 x, .int .u64 y, .int .u64 0]).run Tryz.prog w = .ok (.value (.tuple #[.int .u64 ((x + y) % 18446744073709551616), .int .u64 ((x + y) / 18446744073709551616)])) w := by
  rw [run_callFunc_extern Tryz.func185 (by kernel_rfl) (by kernel_rfl) (by kernel_rfl) (e := add64Entry) (by kernel_rfl), run_add64 x y 0 hx hy (by omega) (by omega)]
  simp only [Result.andThen, Int.add_zero]
/-- The two words of a sum, as numbers. -/
structure TwoI (s low high : Int) : Prop where
  lo0 : 0 ≤ low
  lo : low < 18446744073709551616
  hi0 : 0 ≤ high
  hi : high < 18446744073709551616
  eq : ∃ h : Int, s = h * 18446744073709551616 + low ∧ high = h % 18446744073709551616
theorem TwoI.add {s low high x l c hh v : Int} (h : TwoI s low high) (h1 : -9223372036854775808 ≤ v) (h2 : v ≤ 9223372036854775807) (hx : x = v % 18446744073709551616)
    (hl : l = (low + x) % 18446744073709551616) (hc : c = (low + x) / 18446744073709551616) (hhh : hh = (high + c + (if v < 0 then -1 else 0)) % 18446744073709551616) : TwoI (s + v) l hh := by
  obtain ⟨l0, lo, h0, hi, k, e1, e2⟩ := h
  have hn : ((low.toNat : Nat) : Int) = low := by omega
  refine ⟨by omega, by omega, by omega, by omega, k + c + (if v < 0 then -1 else 0), ?_, ?_⟩
  · by_cases hv : v < 0
    · rw [if_pos hv]; omega
    · rw [if_neg hv]; omega
  · rw [hhh, e2]
    by_cases hv : v < 0
    · rw [if_pos hv]; omega
    · rw [if_neg hv]; omega
theorem TwoI.fits {s low high : Int} (h : TwoI s low high) (hb : -170141183460469231731687303715884105728 ≤ s ∧ s ≤ 170141183460469231731687303715884105727) :
    (high = (if low ≥ 9223372036854775808 then 18446744073709551615 else 0)) ↔ (-9223372036854775808 ≤ s ∧ s ≤ 9223372036854775807) := by
  obtain ⟨l0, lo, h0, hi, k, e1, e2⟩ := h
  by_cases hl : low ≥ 9223372036854775808
  · rw [if_pos hl]
    constructor
    · intro he
      have : k = -1 := by omega
      subst this
      omega
    · intro he
      have : k = -1 := by omega
      subst this
      omega
  · rw [if_neg hl]
    constructor
    · intro he
      have : k = 0 := by omega
      subst this
      omega
    · intro he
      have : k = 0 := by omega
      subst this
      omega
theorem TwoI.val {s low high : Int} (h : TwoI s low high) (hf : -9223372036854775808 ≤ s ∧ s ≤ 9223372036854775807) : s = if low ≥ 9223372036854775808 then low - 18446744073709551616 else low := by
  obtain ⟨l0, lo, h0, hi, k, e1, e2⟩ := h
  split <;> omega
theorem sumP_bad {vs : List Val} {k : Nat} {v : Val} (hv : vs[k]? = some v) (h : badK v = true) : sumP vs = (Val.zero, 1701) := by
  rw [sumP, if_pos (List.any_eq_true.2 ⟨v, List.mem_of_getElem? hv, h⟩)]
theorem any_take_snoc {α : Type} {p : α → Bool} {l : List α} {k : Nat} {x : α} (hx : l[k]? = some x) : (l.take (k + 1)).any p = ((l.take k).any p || p x) := by
  rw [List.take_add_one, hx, List.any_append]
  simp
theorem u64w (x : Int) : IntKind.u64.wrap x = x % 18446744073709551616 := by simp [IntKind.wrap, IntKind.bits, IntKind.signed]
set_option maxRecDepth 100000 in
set_option maxHeartbeats 8000000 in
theorem sum_any {w0 : World} (vs : List Val) (A : Option Addr) (cap : Nat) (w : World) (h : SlAt w0 w0.heap.size 4 A (vs.map Val.cells)) [f0 : Fut w0 w] (hl : vs.length ≤ 3518437208780) (hr : ∀ v ∈ vs, -9223372036854775808 ≤ v.i ∧ v.i ≤ 9223372036854775807) :
    Calls Tryz.prog 163 #[.slice A vs.length cap] w fun e w' => e = .returned (.tuple #[(sumP vs).1.ag, .int .i64 (sumP vs).2]) ∧ Step w w' := by
  have z0_ := f0.below.size
  have HRG := hide hr
  clear hr
  obtain ⟨W, hW⟩ : ∃ W, W = w.alloc (.cells #[.int .i64 0, .int .i64 0, .bool false, .string ⟨#[]⟩] 36) := ⟨_, rfl⟩
  have SW : Step w W := by rw [hW]; exact Step.of
  have HR0 : Hid (Blk W w.heap.size 36 [.int .i64 0, .int .i64 0, .bool false, .string ⟨#[]⟩]) := by rw [hW]; exact Blk.new w _ 36
  have HW := hide hW
  clear hW
  have NB := hide (fun n w' => number_any n w')
  go_enter Tryz.func163, Tryz.ntmps163
  go_upto_region 2 with fail
  rw [← HW.out]
  go_wp2_with fail
  go_loopw [4, 5, 6, 8, 9, 12] (fun lo hi some_ _ _ i wr => ∃ (k : Nat) (low high : Int), k ≤ vs.length ∧ lo = .int .u64 low ∧ hi = .int .u64 high ∧ some_ = .bool ((vs.take k).any someK) ∧ i = .int .i64 k ∧ Hid ((vs.take k).any badK = false) ∧ Hid (TwoI (sumI (vs.take k)) low high) ∧ Step W wr) (fun _ _ _ _ _ i _ => vs.length - (intOf i).toNat)
  case atStart => exact ⟨0, 0, 0, Nat.zero_le _, rfl, rfl, rfl, rfl, rfl, ⟨by decide, by decide, by decide, by decide, 0, by simp [sumI], by decide⟩, Step.of⟩
  case round =>
    obtain ⟨k, low, high, hk, rfl, rfl, rfl, rfl, HB, HT, hst⟩ := hrel
    obtain ⟨wo, rfl⟩ : ∃ x : World, x = wr := ⟨_, rfl⟩
    have hzo := hst.size
    have HRES := hide (HR0.out.fut (w' := wo))
    have hlo0 := HT.out.lo0; have hlo := HT.out.lo
    have hhi0 := HT.out.hi0; have hhi := HT.out.hi
    have hzW := SW.size
    by_cases hlt : k < vs.length
    · obtain ⟨b, off, hA, hb, hc⟩ := h.elem (w' := wo) inferInstance (k := k) (by simpa using hlt)
      obtain ⟨v, hv⟩ : ∃ v, vs[k]? = some v := ⟨_, List.getElem?_eq_getElem hlt⟩
      obtain ⟨v0, v1, v2, v3⟩ := At.l4 (hc k v.cells (by simp [hv]))
      have hkl : (k : Int) < (vs.length : Int) := by omega
      have hk0 : (0 : Int) ≤ (k : Int) := by omega
      have hlb : b < wo.heap.size := by omega
      have HV := hide hv
      obtain ⟨W2, hW2⟩ : ∃ y : World, y = wo.alloc (.cells #[.int .i64 v.kind, .int .i64 v.i, .bool v.b, .string v.s] 36) := ⟨_, rfl⟩
      have SW2 : Step wo W2 := by rw [hW2]; exact Step.of
      have HV2 : Hid (Blk W2 wo.heap.size 36 [.int .i64 v.kind, .int .i64 v.i, .bool v.b, .string v.s]) := by rw [hW2]; exact Blk.new wo _ 36
      have HW2 := hide hW2
      rw [hA]
      clear hc hv hA hW2
      go_upto_region 5 with fail
      rw [HW2.out.symm]
      clear v0 v1 v2 v3
      obtain ⟨g0, g1, g2, g3⟩ := At.z4 HV2.out.at0
      have lg := HV2.out.lt
      by_cases h0 : v.kind = 0
      · have g0_ : (v.kind == 0) = true := by rw [h0]; rfl
        have HS : Hid ((vs.take (k + 1)).any someK = (vs.take k).any someK) := by show _ = _; rw [any_take_snoc HV.out, someK, h0]; simp
        have HB2 : Hid ((vs.take (k + 1)).any badK = false) := by show _ = _; rw [any_take_snoc HV.out, HB.out, badK, h0]; rfl
        have HT2 : Hid (TwoI (sumI (vs.take (k + 1))) low high) := by
          show TwoI _ _ _
          rw [List.take_add_one, HV.out]
          simp only [Option.toList_some]
          rw [sumI_snoc, if_pos h0, Int.add_zero]
          exact HT.out
        clear h0
        go_wp2_with fail
        go_roundw
        case rel => exact ⟨k + 1, low, high, by omega, rfl, rfl, by rw [HS.out], by go_num, HB2.out, HT2.out, Step.of⟩
        case measure => simp [intOf]; omega
      · have g0_ : (v.kind == 0) = false := beq_eq_false_iff_ne.2 h0
        by_cases h1 : v.kind = 1
        · have g1_ : (v.kind != 1) = false := by rw [h1]; rfl
          have HS : Hid ((vs.take (k + 1)).any someK = true) := by show _ = _; rw [any_take_snoc HV.out, someK, h1]; simp
          have HB2 : Hid ((vs.take (k + 1)).any badK = false) := by show _ = _; rw [any_take_snoc HV.out, HB.out, badK, h1]; rfl
          have hvr := HRG.out v (List.mem_of_getElem? HV.out)
          have HVR := hide hvr
          have hvr1 := hvr.1; have hvr2 := hvr.2
          have HKI : Hid (sumI (vs.take (k + 1)) = sumI (vs.take k) + v.i) := by
            show _ = _
            rw [List.take_add_one, HV.out]
            simp only [Option.toList_some]
            rw [sumI_snoc, if_neg h0]
          obtain ⟨x, hx⟩ : ∃ x : Int, x = IntKind.u64.wrap v.i := ⟨_, rfl⟩
          have hx' : x = v.i % 18446744073709551616 := by rw [hx]; simp [IntKind.wrap, IntKind.bits, IntKind.signed]
          have hx0 : 0 ≤ x := by omega
          have HX := hide hx'
          have HA64 := fun w => run_adds low x hlo0 hx0 w
          rw [hx] at HA64
          clear h0 h1 hvr hx hx'
          go_wp2_with fail
          go_roundw
          case rel =>
            refine ⟨k + 1, _, _, by omega, rfl, rfl, by rw [HS.out], by go_num, HB2.out, ?_, Step.of⟩
            show TwoI _ _ _
            rw [HKI.out]
            exact HT.out.add hvr1 hvr2 (u64w _) rfl rfl (by simp only [u64w]; split <;> omega)
          case measure => simp [intOf]; omega
        · have g1_ : (v.kind != 1) = true := bne_iff_ne.2 h1
          have HE := hide (sumP_bad HV.out (show badK v = true by rw [badK, bne_iff_ne.2 h0, bne_iff_ne.2 h1]; rfl))
          clear h0 h1
          obtain ⟨r0, r1, r2, r3⟩ := At.z4 (HRES.out.fut (w' := W2)).at0
          have lr := (HRES.out.fut (w' := W2)).lt
          have fr := (HRES.out.fut (w' := W2)).free
          go_wp2_with fail
          refine bodyPost_ret (v := .tuple #[.agg #[.int .i64 0, .int .i64 0, .bool false, .string ⟨#[]⟩], .int .i64 1701]) (by simp [results, Tryz.results163, go_sem, r0, r1, r2, r3]) rfl ?_
          exact ⟨by rw [HE.out]; rfl, Step.of⟩
    · obtain rfl : k = vs.length := by omega
      rw [List.take_length] at HB HT
      obtain ⟨r0, r1, r2, r3⟩ := At.z4 (HRES.out.fut (w' := wo)).at0
      have lr := (HRES.out.fut (w' := wo)).lt
      have fr := (HRES.out.fut (w' := wo)).free
      have HNB := HB
      have hsb := sumI_bd (vs := vs) (fun v hv => HRG.out v hv)
      cases hs : vs.any someK with
      | false =>
        have hs_ : (vs.take vs.length).any someK = false := by rw [List.take_length]; exact hs
        have HE : Hid (sumP vs = (Val.zero, 0)) := by show _ = _; rw [sumP, HNB.out, hs]; rfl
        clear hsb
        go_wp2_with fail
        refine bodyPost_ret (v := .tuple #[.agg #[.int .i64 0, .int .i64 0, .bool false, .string ⟨#[]⟩], .int .i64 0]) (by simp [results, Tryz.results163, go_sem, r0, r1, r2, r3]) rfl ?_
        exact ⟨by rw [HE.out]; rfl, Step.of⟩
      | true =>
        have hlq : IntKind.u64.wrap (wrap64 low / 9223372036854775808) = if low ≥ 9223372036854775808 then 18446744073709551615 else 0 := by
          rw [u64w, wrap64]
          split <;> omega
        have hs_ : (vs.take vs.length).any someK = true := by rw [List.take_length]; exact hs
        by_cases hf : -9223372036854775808 ≤ sumI vs ∧ sumI vs ≤ 9223372036854775807
        · have HE : Hid (sumP vs = (⟨1, sumI vs, false, .empty⟩, 0)) := by show _ = _; rw [sumP, HNB.out, hs, if_neg (by simp), if_neg (by simp), if_pos hf]
          have hfi := (HT.out.fits (by omega)).2 hf
          have hval := HT.out.val hf
          have hq : (high != IntKind.u64.wrap (wrap64 low / 9223372036854775808)) = false := by rw [hlq, bne_eq_false_iff_eq]; exact hfi
          have hw : wrap64 low = sumI vs := by rw [hval, wrap64]; split <;> omega
          have NB2 : Hid (∀ w', Calls Tryz.prog 162 #[.int .i64 (wrap64 low)] w' fun e w'' => e = .returned (.agg #[.int .i64 1, .int .i64 (sumI vs), .bool false, .string ⟨#[]⟩]) ∧ Step w' w'') := by rw [hw]; exact fun w' => NB.out _ w'
          clear hfi hval hlq hw hf hsb
          go_wp2_with (go_at_call 162; (with_reducible refine (NB2.out _).mono ?_); rintro e w7 ⟨rfl, hs7⟩; clear r0 r1 r2 r3 lr fr; obtain ⟨r0, r1, r2, r3⟩ := At.z4 (HRES.out.fut (w' := w7)).at0; have lr := (HRES.out.fut (w' := w7)).lt; have fr := (HRES.out.fut (w' := w7)).free)
          refine bodyPost_ret (v := .tuple #[.agg #[.int .i64 1, .int .i64 (sumI vs), .bool false, .string ⟨#[]⟩], .int .i64 0]) (by simp [results, Tryz.results163, go_sem, r0, r1, r2, r3]) rfl ?_
          exact ⟨by rw [HE.out]; rfl, Step.of⟩
        · have HE : Hid (sumP vs = (Val.zero, 1702)) := by show _ = _; rw [sumP, HNB.out, hs, if_neg (by simp), if_neg (by simp), if_neg hf]
          have hfi : ¬ high = (if low ≥ 9223372036854775808 then 18446744073709551615 else 0) := fun hh => hf ((HT.out.fits (by omega)).1 hh)
          have hq : (high != IntKind.u64.wrap (wrap64 low / 9223372036854775808)) = true := by rw [hlq, bne_iff_ne]; exact hfi
          clear hfi hlq hf hsb
          go_wp2_with fail
          refine bodyPost_ret (v := .tuple #[.agg #[.int .i64 0, .int .i64 0, .bool false, .string ⟨#[]⟩], .int .i64 1702]) (by simp [results, Tryz.results163, go_sem, r0, r1, r2, r3]) rfl ?_
          exact ⟨by rw [HE.out]; rfl, Step.of⟩
end Go.Proofs.YtnphokhehacfnaaGreatDoor

