/-
  Texts put together: Dh, D4.
-/
import Derived.Test.YtnphokhehacfnaaGreatDoorCz01
import Derived.Test.YtnphokhehacfnaaGreatDoorCz02
import Derived.Test.YtnphokhehacfnaaGreatDoorCz06
import Derived.Test.YtnphokhehacfnaaGreatDoorCz07
import Derived.Test.YtnphokhehacfnaaGreatDoorCz09
namespace Go.Proofs.YtnphokhehacfnaaGreatDoor
open Go.RowKit

theorem set4_below {B : Nat} {w W : World} {g : Nat} (h : Below B w W) (hg : B ≤ g) (o : Nat) (v : Val) : Below B w (set4 W g o v) :=
  (((h.setCell (p := ⟨g, o, none⟩) hg _).setCell (p := ⟨g, o + 1, none⟩) hg _).setCell (p := ⟨g, o + 2, none⟩) hg _).setCell (p := ⟨g, o + 3, none⟩) hg _
theorem set4_cell (W : World) {g b : Nat} (hn : g ≠ b) (o : Nat) (v : Val) (o' : Nat) : (set4 W g o v).cell? ⟨b, o', none⟩ = W.cell? ⟨b, o', none⟩ := by
  have hn' : b ≠ g := hn.symm
  have e0 := Below.heap_setCell W ⟨g, o, none⟩ (.int .i64 v.kind) b hn'
  have e1 := Below.heap_setCell (W.setCell ⟨g, o, none⟩ (.int .i64 v.kind)) ⟨g, o + 1, none⟩ (.int .i64 v.i) b hn'
  have e2 := Below.heap_setCell ((W.setCell ⟨g, o, none⟩ (.int .i64 v.kind)).setCell ⟨g, o + 1, none⟩ (.int .i64 v.i)) ⟨g, o + 2, none⟩ (.bool v.b) b hn'
  have e3 := Below.heap_setCell (((W.setCell ⟨g, o, none⟩ (.int .i64 v.kind)).setCell ⟨g, o + 1, none⟩ (.int .i64 v.i)).setCell ⟨g, o + 2, none⟩ (.bool v.b)) ⟨g, o + 3, none⟩ (.string v.s) b hn'
  exact World.cell?_of_block (w := W) (e3.trans (e2.trans (e1.trans e0)))
theorem stat_put {w : World} {g : Nat} {c n : Int} {m x : Val} (h : Blk w g 158 [.int .i64 c, .int .i64 n, .int .i64 m.kind, .int .i64 m.i, .bool m.b, .string m.s, .int .i64 x.kind, .int .i64 x.i, .bool x.b, .string x.s]) (m' x' : Val) : Blk (set4 (set4 w g 2 m') g 6 x') g 158 [.int .i64 c, .int .i64 n, .int .i64 m'.kind, .int .i64 m'.i, .bool m'.b, .string m'.s, .int .i64 x'.kind, .int .i64 x'.i, .bool x'.b, .string x'.s] :=
  (((((((h.set_ 2 (.int .i64 m'.kind)).set_ 3 (.int .i64 m'.i)).set_ 4 (.bool m'.b)).set_ 5 (.string m'.s)).set_ 6 (.int .i64 x'.kind)).set_ 7 (.int .i64 x'.i)).set_ 8 (.bool x'.b)).set_ 9 (.string x'.s)
set_option maxRecDepth 100000 in
set_option maxHeartbeats 8000000 in
theorem statsOf_any {w0 : World} (c : Int) (vs : List Val) (A : Option Addr) (cap : Nat) (w : World) (h : SlAt w0 w0.heap.size 4 A (vs.map Val.cells)) [f0 : Fut w0 w] (hl : vs.length ≤ 4611686018427387904) :
    Calls Tryz.prog 161 #[.int .i64 c, .slice A vs.length cap] w fun e w' => e = .returned (.agg #[.int .i64 c, .int .i64 (nullsP vs : Int), .int .i64 (minP vs).kind, .int .i64 (minP vs).i, .bool (minP vs).b, .string (minP vs).s, .int .i64 (maxP vs).kind, .int .i64 (maxP vs).i, .bool (maxP vs).b, .string (maxP vs).s]) ∧ Step w w' := by
  have z0_ := f0.below.size
  have hfd : ∀ (a b c d : Value) (w : World), (Instr.field 36 (.agg #[a, b, c, d]) 0).run Tryz.prog w = .ok a w := fun _ _ _ _ _ => by kernel_rfl
  obtain ⟨W, hW⟩ : ∃ W, W = (w.alloc (.cells #[.int .i64 0, .int .i64 0, .int .i64 0, .int .i64 0, .bool false, .string ⟨#[]⟩, .int .i64 0, .int .i64 0, .bool false, .string ⟨#[]⟩] 158)).alloc (.cells #[.int .i64 c, .int .i64 0, .int .i64 0, .int .i64 0, .bool false, .string ⟨#[]⟩, .int .i64 0, .int .i64 0, .bool false, .string ⟨#[]⟩] 158) := ⟨_, rfl⟩
  have SW : Step w W := by rw [hW]; exact Step.of
  have HR0 : Hid (Blk W w.heap.size 158 [.int .i64 0, .int .i64 0, .int .i64 0, .int .i64 0, .bool false, .string ⟨#[]⟩, .int .i64 0, .int .i64 0, .bool false, .string ⟨#[]⟩]) := by rw [hW]; exact (Blk.new w [.int .i64 0, .int .i64 0, .int .i64 0, .int .i64 0, .bool false, .string ⟨#[]⟩, .int .i64 0, .int .i64 0, .bool false, .string ⟨#[]⟩] 158).alloc _
  have HM0 : Hid (Blk W (w.heap.size + 1) 158 [.int .i64 c, .int .i64 (nullsP (vs.take 0)), .int .i64 (minP (vs.take 0)).kind, .int .i64 (minP (vs.take 0)).i, .bool (minP (vs.take 0)).b, .string (minP (vs.take 0)).s, .int .i64 (maxP (vs.take 0)).kind, .int .i64 (maxP (vs.take 0)).i, .bool (maxP (vs.take 0)).b, .string (maxP (vs.take 0)).s]) := by rw [hW]; exact Blk.new_at (by simp) _ 158
  have HW := hide hW
  clear hW
  go_enter Tryz.func161, Tryz.ntmps161
  go_upto_region 2 with fail
  rw [← HW.out]
  go_wp2_with fail
  go_loopw [7, 12] (fun _ i wr => ∃ k : Nat, k ≤ vs.length ∧ i = .int .i64 k ∧ Blk wr w.heap.size 158 [.int .i64 0, .int .i64 0, .int .i64 0, .int .i64 0, .bool false, .string ⟨#[]⟩, .int .i64 0, .int .i64 0, .bool false, .string ⟨#[]⟩] ∧ Blk wr (w.heap.size + 1) 158 [.int .i64 c, .int .i64 (nullsP (vs.take k) : Int), .int .i64 (minP (vs.take k)).kind, .int .i64 (minP (vs.take k)).i, .bool (minP (vs.take k)).b, .string (minP (vs.take k)).s, .int .i64 (maxP (vs.take k)).kind, .int .i64 (maxP (vs.take k)).i, .bool (maxP (vs.take k)).b, .string (maxP (vs.take k)).s] ∧ Step w wr) (fun _ i _ => vs.length - (intOf i).toNat)
  case atStart => exact ⟨0, Nat.zero_le _, rfl, HR0.out, HM0.out, Step.of⟩
  case round =>
    clear HR0 HM0
    obtain ⟨k, hk, rfl, hres, hm, hst⟩ := hrel
    obtain ⟨wo, rfl⟩ : ∃ x : World, x = wr := ⟨_, rfl⟩
    have hzo := hst.size
    by_cases hlt : k < vs.length
    · obtain ⟨b, off, hA, hb, hc⟩ := h.elem (w' := wo) inferInstance (k := k) (by simpa using hlt)
      obtain ⟨v, hv⟩ : ∃ v, vs[k]? = some v := ⟨_, List.getElem?_eq_getElem hlt⟩
      obtain ⟨v0, v1, v2, v3⟩ := At.l4 (hc k v.cells (by simp [hv]))
      have hkl : (k : Int) < (vs.length : Int) := by omega
      have hk0 : (0 : Int) ≤ (k : Int) := by omega
      have hlb : b < wo.heap.size := by omega
      have HMK : Hid (selV lessV (minP (vs.take k)) v = minP (vs.take (k + 1))) := by
        show _ = _
        rw [List.take_add_one, hv]
        simp [minP]
      have HXK : Hid (selV (fun x y => lessV y x) (maxP (vs.take k)) v = maxP (vs.take (k + 1))) := by
        show _ = _
        rw [List.take_add_one, hv]
        simp [maxP]
      have HNK : Hid ((nullsP (vs.take (k + 1)) : Int) = (nullsP (vs.take k) : Int) + (if kindV v = 0 then 1 else 0)) := by
        show _ = _
        rw [List.take_add_one, hv]
        unfold nullsP
        rw [List.countP_append]
        by_cases h0 : kindV v = 0
        · simp [h0]
        · simp [h0]
      have hnb : (nullsP (vs.take k) : Int) ≤ k := by
        have := List.countP_le_length (p := fun v => kindV v == 0) (l := vs.take k)
        rw [List.length_take] at this
        unfold nullsP
        omega
      obtain ⟨m, hm_⟩ : ∃ m, minP (vs.take k) = m := ⟨_, rfl⟩
      obtain ⟨x, hx_⟩ : ∃ x, maxP (vs.take k) = x := ⟨_, rfl⟩
      obtain ⟨n, hn_⟩ : ∃ n, nullsP (vs.take k) = n := ⟨_, rfl⟩
      rw [hm_, hx_, hn_] at hm
      rw [hm_] at HMK
      rw [hx_] at HXK
      rw [hn_] at HNK hnb
      have PV := hide (plain_ag v)
      have L1 : Hid (∀ w', Calls Tryz.prog 182 #[.agg #[.int .i64 m.kind, .int .i64 m.i, .bool m.b, .string m.s], .agg #[.int .i64 v.kind, .int .i64 v.i, .bool v.b, .string v.s], .func (.func 183) #[] #[]] w' fun e w'' => e = .returned (.agg #[.int .i64 (selV lessV m v).kind, .int .i64 (selV lessV m v).i, .bool (selV lessV m v).b, .string (selV lessV m v).s]) ∧ Step w' w'') := fun w' => lesser_any 183 lessV m v w' (fun args w => by kernel_rfl) (fun x y w'' => pless_any x y w'')
      have L2 : Hid (∀ w', Calls Tryz.prog 182 #[.agg #[.int .i64 x.kind, .int .i64 x.i, .bool x.b, .string x.s], .agg #[.int .i64 v.kind, .int .i64 v.i, .bool v.b, .string v.s], .func (.func 184) #[] #[]] w' fun e w'' => e = .returned (.agg #[.int .i64 (selV (fun x y => lessV y x) x v).kind, .int .i64 (selV (fun x y => lessV y x) x v).i, .bool (selV (fun x y => lessV y x) x v).b, .string (selV (fun x y => lessV y x) x v).s]) ∧ Step w' w'') := fun w' => lesser_any 184 (fun x y => lessV y x) x v w' (fun args w => by kernel_rfl) (fun x y w'' => more_any x y w'')
      obtain ⟨W2, hW2⟩ : ∃ y : World, y = wo.alloc (.cells #[.int .i64 v.kind, .int .i64 v.i, .bool v.b, .string v.s] 36) := ⟨_, rfl⟩
      have SW2 : Step wo W2 := by rw [hW2]; exact Step.of
      have HV2 : Hid (Blk W2 wo.heap.size 36 [.int .i64 v.kind, .int .i64 v.i, .bool v.b, .string v.s]) := by rw [hW2]; exact Blk.new wo _ 36
      have HRES0 := hide (hres.fut (w' := W2))
      have HM1 := hide (hm.fut (w' := W2))
      have hoz : w.heap.size + 1 < wo.heap.size := hm.lt
      have HW2 := hide hW2
      rw [hA]
      clear hc hv hA hm_ hx_ hn_ hres hm hW2
      go_upto_region 5 with fail
      rw [HW2.out.symm]
      clear v0 v1 v2 v3
      obtain ⟨g0, g1, g2, g3⟩ := At.z4 (HV2.out.fut (w' := W2)).at0
      have lg := (HV2.out.fut (w' := W2)).lt
      by_cases h0 : kindV v = 0
      · have g0_ : (kindV v == 0) = true := by rw [h0]; rfl
        rw [if_pos h0] at HNK
        clear h0
        go_upto_region 6 with (go_at_call 109; (with_reducible refine (PV.out _).mono ?_); rintro e w4 ⟨rfl, hs4⟩)
        clear g0 g1 g2 g3 lg
        obtain ⟨m0, m1, m2, m3, m4, m5, m6, m7, m8, m9⟩ := At.z10 (HM1.out.fut (w' := w4)).at0
        have lm := (HM1.out.fut (w' := w4)).lt
        have fm := (HM1.out.fut (w' := w4)).free
        go_upto_region 7 with fail
        have HMS := hide ((HM1.out.fut (w' := w4)).set_ 1 (.int .i64 ((n : Int) + 1)))
        rw [← HNK.out] at HMS
        have HRES := hide ((HRES0.out.fut (w' := w4)).far (p := ⟨w.heap.size + 1, 1, none⟩) (by simp) (.int .i64 (nullsP (vs.take (k + 1)) : Int)))
        have HV3 := hide ((HV2.out.fut (w' := w4)).far (p := ⟨w.heap.size + 1, 1, none⟩) (by simp; omega) (.int .i64 (nullsP (vs.take (k + 1)) : Int)))
        rw [show ((n : Int) + 1) = (nullsP (vs.take (k + 1)) : Int) from HNK.out.symm]
        have hbq := (fut w w4).setCell (p := ⟨w.heap.size + 1, 1, none⟩) (by simp) (.int .i64 (nullsP (vs.take (k + 1)) : Int))
        obtain ⟨wq, hwq⟩ : ∃ y : World, y = w4.setCell ⟨w.heap.size + 1, 1, none⟩ (.int .i64 (nullsP (vs.take (k + 1)) : Int)) := ⟨_, rfl⟩
        rw [← hwq] at HMS HRES HV3 hbq
        rw [← hwq]
        clear hwq m0 m1 m2 m3 m4 m5 m6 m7 m8 m9 lm fm
        have hsq : Step w wq := ⟨hbq⟩
        have HM := hide HMS.out
        have hoq : wo.heap.size ≠ w.heap.size + 1 := by omega
        have hqz : w.heap.size + 1 ≤ wq.heap.size := by have := HM.out.lt; omega
        obtain ⟨m0, m1, m2, m3, m4, m5, m6, m7, m8, m9⟩ := At.z10 (HM.out.fut (w' := wq)).at0
        have lm := (HM.out.fut (w' := wq)).lt
        have fm := (HM.out.fut (w' := wq)).free
        obtain ⟨g0, g1, g2, g3⟩ := At.z4 (HV3.out.fut (w' := wq)).at0
        have lg := (HV3.out.fut (w' := wq)).lt
        refine wp_region_held_drew (S := (fun w' => Step w w' ∧ (∀ b o, b < wq.heap.size → b ≠ w.heap.size + 1 → w'.cell? ⟨b, o, none⟩ = wq.cell? ⟨b, o, none⟩))) (by kernel_rfl) (by (try dsimp only); (first | exact ⟨hS1, hS2⟩ | exact ⟨Step.of, fun b o h _ => (fut wq _).cell (p := ⟨b, o, none⟩) h⟩)) (fun hHeld => ?_)
        refine wT 0 24 (by assumption) ?_
        refine wT 2 26 (by assumption) ?_
        refine wT 4 28 (by assumption) ?_
        refine wT 6 30 (by assumption) ?_
        refine wpAnyH_ready (rs := [1, 5]) (by kernel_rfl) (by simp) ?_
        refine AllReadyH.cons (o := ⟨some 25, _, _, _, _, _⟩) rfl (fun K hK => ?_) (AllReadyH.cons (o := ⟨some 29, _, _, _, _, _⟩) rfl (fun K hK => ?_) AllReadyH.nil)
        · go_simp
          refine hK.out _ _ (by (try dsimp only); (first | exact ⟨hS1, hS2⟩ | exact ⟨Step.of, fun b o h _ => (fut wq _).cell (p := ⟨b, o, none⟩) h⟩)) (fun hHeld => ?_)
          clear hK K
          (try simp only [Act.put, List.setIfInBounds_toArray, List.set_cons_zero, List.set_cons_succ])
          refine wpAnyH_ready (rs := [3, 5]) (by kernel_rfl) (by simp) ?_
          refine AllReadyH.cons (o := ⟨some 27, _, _, _, _, _⟩) rfl (fun K hK => ?_) (AllReadyH.cons (o := ⟨some 29, _, _, _, _, _⟩) rfl (fun K hK => ?_) AllReadyH.nil)
          · obtain ⟨hS1, hS2⟩ := hHeld
            go_simp
            (go_at_call 182; (with_reducible refine (L1.out _).mono ?_); rintro e w5 ⟨rfl, hs5⟩; clear m0 m1 m2 m3 m4 m5 m6 m7 m8 m9 lm fm; obtain ⟨m0, m1, m2, m3, m4, m5, m6, m7, m8, m9⟩ := At.z10 (HM.out.fut (w' := w5)).at0; have lm := (HM.out.fut (w' := w5)).lt; have fm := (HM.out.fut (w' := w5)).free)
            refine hK.out _ _ (by (try dsimp only); (first | exact ⟨hS1, hS2⟩ | exact ⟨Step.of, fun b o h _ => (fut wq _).cell (p := ⟨b, o, none⟩) h⟩)) (fun hHeld => ?_)
            clear hK K
            (try simp only [Act.put, List.setIfInBounds_toArray, List.set_cons_zero, List.set_cons_succ])
            refine wpAnyH_ready (rs := [5]) (by kernel_rfl) (by simp) ?_
            refine AllReadyH.cons (o := ⟨some 29, _, _, _, _, _⟩) rfl (fun K hK => ?_) AllReadyH.nil
            go_simp
            refine hK.out _ _ (by (try dsimp only); (first | exact ⟨hS1, hS2⟩ | exact ⟨Step.of, fun b o h _ => (fut wq _).cell (p := ⟨b, o, none⟩) h⟩)) (fun hHeld => ?_)
            clear hK K
            (try simp only [Act.put, List.setIfInBounds_toArray, List.set_cons_zero, List.set_cons_succ])
            refine wT 8 32 (by assumption) ?_
            refine wpAnyH_ready (rs := [7]) (by kernel_rfl) (by simp) ?_
            refine AllReadyH.cons (o := ⟨some 31, _, _, _, _, _⟩) rfl (fun K hK => ?_) AllReadyH.nil
            obtain ⟨hS1, hS2⟩ := hHeld
            go_simp
            (go_at_call 182; (with_reducible refine (L2.out _).mono ?_); rintro e w6 ⟨rfl, hs6⟩; clear m0 m1 m2 m3 m4 m5 m6 m7 m8 m9 lm fm; obtain ⟨m0, m1, m2, m3, m4, m5, m6, m7, m8, m9⟩ := At.z10 (HM.out.fut (w' := w6)).at0; have lm := (HM.out.fut (w' := w6)).lt; have fm := (HM.out.fut (w' := w6)).free)
            refine hK.out _ _ (by (try dsimp only); (first | exact ⟨hS1, hS2⟩ | exact ⟨Step.of, fun b o h _ => (fut wq _).cell (p := ⟨b, o, none⟩) h⟩)) (fun hHeld => ?_)
            clear hK K
            (try simp only [Act.put, List.setIfInBounds_toArray, List.set_cons_zero, List.set_cons_succ])
            refine wpAnyH_ready (rs := [9]) (by kernel_rfl) (by simp) ?_
            refine AllReadyH.cons (o := ⟨none, _, _, _, _, _⟩) rfl (fun K hK => ?_) AllReadyH.nil
            go_simp
            refine hK.out _ _ (by (try dsimp only); (exact ⟨⟨set4_below (fut w w6) (by omega) 2 _⟩, fun b o h hn => (set4_cell w6 hn.symm 2 _ o).trans ((fut wq w6).cell (p := ⟨b, o, none⟩) h)⟩)) (fun hHeld => ?_)
            clear hK K
            (try simp only [Act.put, List.setIfInBounds_toArray, List.set_cons_zero, List.set_cons_succ])
            refine wT 10 33 (by assumption) ?_
            refine wpAnyH_ready (rs := [11]) (by kernel_rfl) (by simp) ?_
            refine AllReadyH.cons (o := ⟨none, _, _, _, _, _⟩) rfl (fun K hK => ?_) AllReadyH.nil
            go_simp
            refine hK.out _ _ (by (try dsimp only); (exact ⟨⟨set4_below (set4_below (fut w w6) (by omega) 2 _) (by omega) 6 _⟩, fun b o h hn => (set4_cell _ hn.symm 6 _ o).trans ((set4_cell w6 hn.symm 2 _ o).trans ((fut wq w6).cell (p := ⟨b, o, none⟩) h))⟩)) (fun hHeld => ?_)
            clear hK K
            (try simp only [Act.put, List.setIfInBounds_toArray, List.set_cons_zero, List.set_cons_succ])
            refine wpAnyH_done (by kernel_rfl) ?_ _
            have HM6 := hide (stat_put (HM.out.fut (w' := w6)) (selV lessV m v) (selV (fun x y => lessV y x) x v))
            have HR6 := hide (((HRES.out.fut (w' := w6)).grown (set4_grown w6 (w.heap.size + 1) 2 (selV lessV m v)) (by simp)).grown (set4_grown _ (w.heap.size + 1) 6 (selV (fun x y => lessV y x) x v)) (by simp))
            have hb6 : Below w.heap.size w _ := set4_below (set4_below (fut w w6) (Nat.le_add_right w.heap.size 1) 2 (selV lessV m v)) (Nat.le_add_right w.heap.size 1) 6 (selV (fun x y => lessV y x) x v)
            obtain ⟨X, hX⟩ : ∃ X : World, X = set4 (set4 w6 (w.heap.size + 1) 2 (selV lessV m v)) (w.heap.size + 1) 6 (selV (fun x y => lessV y x) x v) := ⟨_, rfl⟩
            rw [← hX] at HM6 HR6 hb6
            unfold set4 at hX
            rw [← hX]
            clear hX m0 m1 m2 m3 m4 m5 m6 m7 m8 m9 lm fm
            have hsX : Step w X := ⟨hb6⟩
            rw [HMK.out, HXK.out] at HM6
            go_wp2_with fail
            go_roundw
            case rel => exact ⟨k + 1, by omega, by go_num, HR6.out, HM6.out, Step.of⟩
            case measure => simp [intOf]; omega
          · go_simp
            refine hK.out _ _ (by (try dsimp only); (first | exact ⟨hS1, hS2⟩ | exact ⟨Step.of, fun b o h _ => (fut wq _).cell (p := ⟨b, o, none⟩) h⟩)) (fun hHeld => ?_)
            clear hK K
            (try simp only [Act.put, List.setIfInBounds_toArray, List.set_cons_zero, List.set_cons_succ])
            refine wpAnyH_ready (rs := [3]) (by kernel_rfl) (by simp) ?_
            refine AllReadyH.cons (o := ⟨some 27, _, _, _, _, _⟩) rfl (fun K hK => ?_) AllReadyH.nil
            obtain ⟨hS1, hS2⟩ := hHeld
            go_simp
            (go_at_call 182; (with_reducible refine (L1.out _).mono ?_); rintro e w5 ⟨rfl, hs5⟩; clear m0 m1 m2 m3 m4 m5 m6 m7 m8 m9 lm fm; obtain ⟨m0, m1, m2, m3, m4, m5, m6, m7, m8, m9⟩ := At.z10 (HM.out.fut (w' := w5)).at0; have lm := (HM.out.fut (w' := w5)).lt; have fm := (HM.out.fut (w' := w5)).free)
            refine hK.out _ _ (by (try dsimp only); (first | exact ⟨hS1, hS2⟩ | exact ⟨Step.of, fun b o h _ => (fut wq _).cell (p := ⟨b, o, none⟩) h⟩)) (fun hHeld => ?_)
            clear hK K
            (try simp only [Act.put, List.setIfInBounds_toArray, List.set_cons_zero, List.set_cons_succ])
            refine wT 8 32 (by assumption) ?_
            refine wpAnyH_ready (rs := [7]) (by kernel_rfl) (by simp) ?_
            refine AllReadyH.cons (o := ⟨some 31, _, _, _, _, _⟩) rfl (fun K hK => ?_) AllReadyH.nil
            obtain ⟨hS1, hS2⟩ := hHeld
            go_simp
            (go_at_call 182; (with_reducible refine (L2.out _).mono ?_); rintro e w6 ⟨rfl, hs6⟩; clear m0 m1 m2 m3 m4 m5 m6 m7 m8 m9 lm fm; obtain ⟨m0, m1, m2, m3, m4, m5, m6, m7, m8, m9⟩ := At.z10 (HM.out.fut (w' := w6)).at0; have lm := (HM.out.fut (w' := w6)).lt; have fm := (HM.out.fut (w' := w6)).free)
            refine hK.out _ _ (by (try dsimp only); (first | exact ⟨hS1, hS2⟩ | exact ⟨Step.of, fun b o h _ => (fut wq _).cell (p := ⟨b, o, none⟩) h⟩)) (fun hHeld => ?_)
            clear hK K
            (try simp only [Act.put, List.setIfInBounds_toArray, List.set_cons_zero, List.set_cons_succ])
            refine wpAnyH_ready (rs := [9]) (by kernel_rfl) (by simp) ?_
            refine AllReadyH.cons (o := ⟨none, _, _, _, _, _⟩) rfl (fun K hK => ?_) AllReadyH.nil
            go_simp
            refine hK.out _ _ (by (try dsimp only); (exact ⟨⟨set4_below (fut w w6) (by omega) 2 _⟩, fun b o h hn => (set4_cell w6 hn.symm 2 _ o).trans ((fut wq w6).cell (p := ⟨b, o, none⟩) h)⟩)) (fun hHeld => ?_)
            clear hK K
            (try simp only [Act.put, List.setIfInBounds_toArray, List.set_cons_zero, List.set_cons_succ])
            refine wT 10 33 (by assumption) ?_
            refine wpAnyH_ready (rs := [11]) (by kernel_rfl) (by simp) ?_
            refine AllReadyH.cons (o := ⟨none, _, _, _, _, _⟩) rfl (fun K hK => ?_) AllReadyH.nil
            go_simp
            refine hK.out _ _ (by (try dsimp only); (exact ⟨⟨set4_below (set4_below (fut w w6) (by omega) 2 _) (by omega) 6 _⟩, fun b o h hn => (set4_cell _ hn.symm 6 _ o).trans ((set4_cell w6 hn.symm 2 _ o).trans ((fut wq w6).cell (p := ⟨b, o, none⟩) h))⟩)) (fun hHeld => ?_)
            clear hK K
            (try simp only [Act.put, List.setIfInBounds_toArray, List.set_cons_zero, List.set_cons_succ])
            refine wpAnyH_done (by kernel_rfl) ?_ _
            have HM6 := hide (stat_put (HM.out.fut (w' := w6)) (selV lessV m v) (selV (fun x y => lessV y x) x v))
            have HR6 := hide (((HRES.out.fut (w' := w6)).grown (set4_grown w6 (w.heap.size + 1) 2 (selV lessV m v)) (by simp)).grown (set4_grown _ (w.heap.size + 1) 6 (selV (fun x y => lessV y x) x v)) (by simp))
            have hb6 : Below w.heap.size w _ := set4_below (set4_below (fut w w6) (Nat.le_add_right w.heap.size 1) 2 (selV lessV m v)) (Nat.le_add_right w.heap.size 1) 6 (selV (fun x y => lessV y x) x v)
            obtain ⟨X, hX⟩ : ∃ X : World, X = set4 (set4 w6 (w.heap.size + 1) 2 (selV lessV m v)) (w.heap.size + 1) 6 (selV (fun x y => lessV y x) x v) := ⟨_, rfl⟩
            rw [← hX] at HM6 HR6 hb6
            unfold set4 at hX
            rw [← hX]
            clear hX m0 m1 m2 m3 m4 m5 m6 m7 m8 m9 lm fm
            have hsX : Step w X := ⟨hb6⟩
            rw [HMK.out, HXK.out] at HM6
            go_wp2_with fail
            go_roundw
            case rel => exact ⟨k + 1, by omega, by go_num, HR6.out, HM6.out, Step.of⟩
            case measure => simp [intOf]; omega
        · go_simp
          refine hK.out _ _ (by (try dsimp only); (first | exact ⟨hS1, hS2⟩ | exact ⟨Step.of, fun b o h _ => (fut wq _).cell (p := ⟨b, o, none⟩) h⟩)) (fun hHeld => ?_)
          clear hK K
          (try simp only [Act.put, List.setIfInBounds_toArray, List.set_cons_zero, List.set_cons_succ])
          refine wpAnyH_ready (rs := [1]) (by kernel_rfl) (by simp) ?_
          refine AllReadyH.cons (o := ⟨some 25, _, _, _, _, _⟩) rfl (fun K hK => ?_) AllReadyH.nil
          go_simp
          refine hK.out _ _ (by (try dsimp only); (first | exact ⟨hS1, hS2⟩ | exact ⟨Step.of, fun b o h _ => (fut wq _).cell (p := ⟨b, o, none⟩) h⟩)) (fun hHeld => ?_)
          clear hK K
          (try simp only [Act.put, List.setIfInBounds_toArray, List.set_cons_zero, List.set_cons_succ])
          refine wpAnyH_ready (rs := [3]) (by kernel_rfl) (by simp) ?_
          refine AllReadyH.cons (o := ⟨some 27, _, _, _, _, _⟩) rfl (fun K hK => ?_) AllReadyH.nil
          obtain ⟨hS1, hS2⟩ := hHeld
          go_simp
          (go_at_call 182; (with_reducible refine (L1.out _).mono ?_); rintro e w5 ⟨rfl, hs5⟩; clear m0 m1 m2 m3 m4 m5 m6 m7 m8 m9 lm fm; obtain ⟨m0, m1, m2, m3, m4, m5, m6, m7, m8, m9⟩ := At.z10 (HM.out.fut (w' := w5)).at0; have lm := (HM.out.fut (w' := w5)).lt; have fm := (HM.out.fut (w' := w5)).free)
          refine hK.out _ _ (by (try dsimp only); (first | exact ⟨hS1, hS2⟩ | exact ⟨Step.of, fun b o h _ => (fut wq _).cell (p := ⟨b, o, none⟩) h⟩)) (fun hHeld => ?_)
          clear hK K
          (try simp only [Act.put, List.setIfInBounds_toArray, List.set_cons_zero, List.set_cons_succ])
          refine wT 8 32 (by assumption) ?_
          refine wpAnyH_ready (rs := [7]) (by kernel_rfl) (by simp) ?_
          refine AllReadyH.cons (o := ⟨some 31, _, _, _, _, _⟩) rfl (fun K hK => ?_) AllReadyH.nil
          obtain ⟨hS1, hS2⟩ := hHeld
          go_simp
          (go_at_call 182; (with_reducible refine (L2.out _).mono ?_); rintro e w6 ⟨rfl, hs6⟩; clear m0 m1 m2 m3 m4 m5 m6 m7 m8 m9 lm fm; obtain ⟨m0, m1, m2, m3, m4, m5, m6, m7, m8, m9⟩ := At.z10 (HM.out.fut (w' := w6)).at0; have lm := (HM.out.fut (w' := w6)).lt; have fm := (HM.out.fut (w' := w6)).free)
          refine hK.out _ _ (by (try dsimp only); (first | exact ⟨hS1, hS2⟩ | exact ⟨Step.of, fun b o h _ => (fut wq _).cell (p := ⟨b, o, none⟩) h⟩)) (fun hHeld => ?_)
          clear hK K
          (try simp only [Act.put, List.setIfInBounds_toArray, List.set_cons_zero, List.set_cons_succ])
          refine wpAnyH_ready (rs := [9]) (by kernel_rfl) (by simp) ?_
          refine AllReadyH.cons (o := ⟨none, _, _, _, _, _⟩) rfl (fun K hK => ?_) AllReadyH.nil
          go_simp
          refine hK.out _ _ (by (try dsimp only); (exact ⟨⟨set4_below (fut w w6) (by omega) 2 _⟩, fun b o h hn => (set4_cell w6 hn.symm 2 _ o).trans ((fut wq w6).cell (p := ⟨b, o, none⟩) h)⟩)) (fun hHeld => ?_)
          clear hK K
          (try simp only [Act.put, List.setIfInBounds_toArray, List.set_cons_zero, List.set_cons_succ])
          refine wT 10 33 (by assumption) ?_
          refine wpAnyH_ready (rs := [11]) (by kernel_rfl) (by simp) ?_
          refine AllReadyH.cons (o := ⟨none, _, _, _, _, _⟩) rfl (fun K hK => ?_) AllReadyH.nil
          go_simp
          refine hK.out _ _ (by (try dsimp only); (exact ⟨⟨set4_below (set4_below (fut w w6) (by omega) 2 _) (by omega) 6 _⟩, fun b o h hn => (set4_cell _ hn.symm 6 _ o).trans ((set4_cell w6 hn.symm 2 _ o).trans ((fut wq w6).cell (p := ⟨b, o, none⟩) h))⟩)) (fun hHeld => ?_)
          clear hK K
          (try simp only [Act.put, List.setIfInBounds_toArray, List.set_cons_zero, List.set_cons_succ])
          refine wpAnyH_done (by kernel_rfl) ?_ _
          have HM6 := hide (stat_put (HM.out.fut (w' := w6)) (selV lessV m v) (selV (fun x y => lessV y x) x v))
          have HR6 := hide (((HRES.out.fut (w' := w6)).grown (set4_grown w6 (w.heap.size + 1) 2 (selV lessV m v)) (by simp)).grown (set4_grown _ (w.heap.size + 1) 6 (selV (fun x y => lessV y x) x v)) (by simp))
          have hb6 : Below w.heap.size w _ := set4_below (set4_below (fut w w6) (Nat.le_add_right w.heap.size 1) 2 (selV lessV m v)) (Nat.le_add_right w.heap.size 1) 6 (selV (fun x y => lessV y x) x v)
          obtain ⟨X, hX⟩ : ∃ X : World, X = set4 (set4 w6 (w.heap.size + 1) 2 (selV lessV m v)) (w.heap.size + 1) 6 (selV (fun x y => lessV y x) x v) := ⟨_, rfl⟩
          rw [← hX] at HM6 HR6 hb6
          unfold set4 at hX
          rw [← hX]
          clear hX m0 m1 m2 m3 m4 m5 m6 m7 m8 m9 lm fm
          have hsX : Step w X := ⟨hb6⟩
          rw [HMK.out, HXK.out] at HM6
          go_wp2_with fail
          go_roundw
          case rel => exact ⟨k + 1, by omega, by go_num, HR6.out, HM6.out, Step.of⟩
          case measure => simp [intOf]; omega
      · have g0_ : (kindV v == 0) = false := beq_eq_false_iff_ne.2 h0
        rw [if_neg h0, Int.add_zero] at HNK
        clear h0
        go_upto_region 7 with (go_at_call 109; (with_reducible refine (PV.out _).mono ?_); rintro e w4 ⟨rfl, hs4⟩)
        clear g0 g1 g2 g3 lg
        obtain ⟨wq, hwq⟩ : ∃ y : World, y = w4 := ⟨_, rfl⟩
        rw [← hwq] at hs4 ⊢
        clear hwq
        have HM := hide (HM1.out.fut (w' := wq))
        rw [← HNK.out] at HM
        have HRES := hide (HRES0.out.fut (w' := wq))
        have HV3 := hide (HV2.out.fut (w' := wq))
        have hoq : wo.heap.size ≠ w.heap.size + 1 := by omega
        have hqz : w.heap.size + 1 ≤ wq.heap.size := by have := HM.out.lt; omega
        obtain ⟨m0, m1, m2, m3, m4, m5, m6, m7, m8, m9⟩ := At.z10 (HM.out.fut (w' := wq)).at0
        have lm := (HM.out.fut (w' := wq)).lt
        have fm := (HM.out.fut (w' := wq)).free
        obtain ⟨g0, g1, g2, g3⟩ := At.z4 (HV3.out.fut (w' := wq)).at0
        have lg := (HV3.out.fut (w' := wq)).lt
        refine wp_region_held_drew (S := (fun w' => Step w w' ∧ (∀ b o, b < wq.heap.size → b ≠ w.heap.size + 1 → w'.cell? ⟨b, o, none⟩ = wq.cell? ⟨b, o, none⟩))) (by kernel_rfl) (by (try dsimp only); (first | exact ⟨hS1, hS2⟩ | exact ⟨Step.of, fun b o h _ => (fut wq _).cell (p := ⟨b, o, none⟩) h⟩)) (fun hHeld => ?_)
        refine wT 0 24 (by assumption) ?_
        refine wT 2 26 (by assumption) ?_
        refine wT 4 28 (by assumption) ?_
        refine wT 6 30 (by assumption) ?_
        refine wpAnyH_ready (rs := [1, 5]) (by kernel_rfl) (by simp) ?_
        refine AllReadyH.cons (o := ⟨some 25, _, _, _, _, _⟩) rfl (fun K hK => ?_) (AllReadyH.cons (o := ⟨some 29, _, _, _, _, _⟩) rfl (fun K hK => ?_) AllReadyH.nil)
        · go_simp
          refine hK.out _ _ (by (try dsimp only); (first | exact ⟨hS1, hS2⟩ | exact ⟨Step.of, fun b o h _ => (fut wq _).cell (p := ⟨b, o, none⟩) h⟩)) (fun hHeld => ?_)
          clear hK K
          (try simp only [Act.put, List.setIfInBounds_toArray, List.set_cons_zero, List.set_cons_succ])
          refine wpAnyH_ready (rs := [3, 5]) (by kernel_rfl) (by simp) ?_
          refine AllReadyH.cons (o := ⟨some 27, _, _, _, _, _⟩) rfl (fun K hK => ?_) (AllReadyH.cons (o := ⟨some 29, _, _, _, _, _⟩) rfl (fun K hK => ?_) AllReadyH.nil)
          · obtain ⟨hS1, hS2⟩ := hHeld
            go_simp
            (go_at_call 182; (with_reducible refine (L1.out _).mono ?_); rintro e w5 ⟨rfl, hs5⟩; clear m0 m1 m2 m3 m4 m5 m6 m7 m8 m9 lm fm; obtain ⟨m0, m1, m2, m3, m4, m5, m6, m7, m8, m9⟩ := At.z10 (HM.out.fut (w' := w5)).at0; have lm := (HM.out.fut (w' := w5)).lt; have fm := (HM.out.fut (w' := w5)).free)
            refine hK.out _ _ (by (try dsimp only); (first | exact ⟨hS1, hS2⟩ | exact ⟨Step.of, fun b o h _ => (fut wq _).cell (p := ⟨b, o, none⟩) h⟩)) (fun hHeld => ?_)
            clear hK K
            (try simp only [Act.put, List.setIfInBounds_toArray, List.set_cons_zero, List.set_cons_succ])
            refine wpAnyH_ready (rs := [5]) (by kernel_rfl) (by simp) ?_
            refine AllReadyH.cons (o := ⟨some 29, _, _, _, _, _⟩) rfl (fun K hK => ?_) AllReadyH.nil
            go_simp
            refine hK.out _ _ (by (try dsimp only); (first | exact ⟨hS1, hS2⟩ | exact ⟨Step.of, fun b o h _ => (fut wq _).cell (p := ⟨b, o, none⟩) h⟩)) (fun hHeld => ?_)
            clear hK K
            (try simp only [Act.put, List.setIfInBounds_toArray, List.set_cons_zero, List.set_cons_succ])
            refine wT 8 32 (by assumption) ?_
            refine wpAnyH_ready (rs := [7]) (by kernel_rfl) (by simp) ?_
            refine AllReadyH.cons (o := ⟨some 31, _, _, _, _, _⟩) rfl (fun K hK => ?_) AllReadyH.nil
            obtain ⟨hS1, hS2⟩ := hHeld
            go_simp
            (go_at_call 182; (with_reducible refine (L2.out _).mono ?_); rintro e w6 ⟨rfl, hs6⟩; clear m0 m1 m2 m3 m4 m5 m6 m7 m8 m9 lm fm; obtain ⟨m0, m1, m2, m3, m4, m5, m6, m7, m8, m9⟩ := At.z10 (HM.out.fut (w' := w6)).at0; have lm := (HM.out.fut (w' := w6)).lt; have fm := (HM.out.fut (w' := w6)).free)
            refine hK.out _ _ (by (try dsimp only); (first | exact ⟨hS1, hS2⟩ | exact ⟨Step.of, fun b o h _ => (fut wq _).cell (p := ⟨b, o, none⟩) h⟩)) (fun hHeld => ?_)
            clear hK K
            (try simp only [Act.put, List.setIfInBounds_toArray, List.set_cons_zero, List.set_cons_succ])
            refine wpAnyH_ready (rs := [9]) (by kernel_rfl) (by simp) ?_
            refine AllReadyH.cons (o := ⟨none, _, _, _, _, _⟩) rfl (fun K hK => ?_) AllReadyH.nil
            go_simp
            refine hK.out _ _ (by (try dsimp only); (exact ⟨⟨set4_below (fut w w6) (by omega) 2 _⟩, fun b o h hn => (set4_cell w6 hn.symm 2 _ o).trans ((fut wq w6).cell (p := ⟨b, o, none⟩) h)⟩)) (fun hHeld => ?_)
            clear hK K
            (try simp only [Act.put, List.setIfInBounds_toArray, List.set_cons_zero, List.set_cons_succ])
            refine wT 10 33 (by assumption) ?_
            refine wpAnyH_ready (rs := [11]) (by kernel_rfl) (by simp) ?_
            refine AllReadyH.cons (o := ⟨none, _, _, _, _, _⟩) rfl (fun K hK => ?_) AllReadyH.nil
            go_simp
            refine hK.out _ _ (by (try dsimp only); (exact ⟨⟨set4_below (set4_below (fut w w6) (by omega) 2 _) (by omega) 6 _⟩, fun b o h hn => (set4_cell _ hn.symm 6 _ o).trans ((set4_cell w6 hn.symm 2 _ o).trans ((fut wq w6).cell (p := ⟨b, o, none⟩) h))⟩)) (fun hHeld => ?_)
            clear hK K
            (try simp only [Act.put, List.setIfInBounds_toArray, List.set_cons_zero, List.set_cons_succ])
            refine wpAnyH_done (by kernel_rfl) ?_ _
            have HM6 := hide (stat_put (HM.out.fut (w' := w6)) (selV lessV m v) (selV (fun x y => lessV y x) x v))
            have HR6 := hide (((HRES.out.fut (w' := w6)).grown (set4_grown w6 (w.heap.size + 1) 2 (selV lessV m v)) (by simp)).grown (set4_grown _ (w.heap.size + 1) 6 (selV (fun x y => lessV y x) x v)) (by simp))
            have hb6 : Below w.heap.size w _ := set4_below (set4_below (fut w w6) (Nat.le_add_right w.heap.size 1) 2 (selV lessV m v)) (Nat.le_add_right w.heap.size 1) 6 (selV (fun x y => lessV y x) x v)
            obtain ⟨X, hX⟩ : ∃ X : World, X = set4 (set4 w6 (w.heap.size + 1) 2 (selV lessV m v)) (w.heap.size + 1) 6 (selV (fun x y => lessV y x) x v) := ⟨_, rfl⟩
            rw [← hX] at HM6 HR6 hb6
            unfold set4 at hX
            rw [← hX]
            clear hX m0 m1 m2 m3 m4 m5 m6 m7 m8 m9 lm fm
            have hsX : Step w X := ⟨hb6⟩
            rw [HMK.out, HXK.out] at HM6
            go_wp2_with fail
            go_roundw
            case rel => exact ⟨k + 1, by omega, by go_num, HR6.out, HM6.out, Step.of⟩
            case measure => simp [intOf]; omega
          · go_simp
            refine hK.out _ _ (by (try dsimp only); (first | exact ⟨hS1, hS2⟩ | exact ⟨Step.of, fun b o h _ => (fut wq _).cell (p := ⟨b, o, none⟩) h⟩)) (fun hHeld => ?_)
            clear hK K
            (try simp only [Act.put, List.setIfInBounds_toArray, List.set_cons_zero, List.set_cons_succ])
            refine wpAnyH_ready (rs := [3]) (by kernel_rfl) (by simp) ?_
            refine AllReadyH.cons (o := ⟨some 27, _, _, _, _, _⟩) rfl (fun K hK => ?_) AllReadyH.nil
            obtain ⟨hS1, hS2⟩ := hHeld
            go_simp
            (go_at_call 182; (with_reducible refine (L1.out _).mono ?_); rintro e w5 ⟨rfl, hs5⟩; clear m0 m1 m2 m3 m4 m5 m6 m7 m8 m9 lm fm; obtain ⟨m0, m1, m2, m3, m4, m5, m6, m7, m8, m9⟩ := At.z10 (HM.out.fut (w' := w5)).at0; have lm := (HM.out.fut (w' := w5)).lt; have fm := (HM.out.fut (w' := w5)).free)
            refine hK.out _ _ (by (try dsimp only); (first | exact ⟨hS1, hS2⟩ | exact ⟨Step.of, fun b o h _ => (fut wq _).cell (p := ⟨b, o, none⟩) h⟩)) (fun hHeld => ?_)
            clear hK K
            (try simp only [Act.put, List.setIfInBounds_toArray, List.set_cons_zero, List.set_cons_succ])
            refine wT 8 32 (by assumption) ?_
            refine wpAnyH_ready (rs := [7]) (by kernel_rfl) (by simp) ?_
            refine AllReadyH.cons (o := ⟨some 31, _, _, _, _, _⟩) rfl (fun K hK => ?_) AllReadyH.nil
            obtain ⟨hS1, hS2⟩ := hHeld
            go_simp
            (go_at_call 182; (with_reducible refine (L2.out _).mono ?_); rintro e w6 ⟨rfl, hs6⟩; clear m0 m1 m2 m3 m4 m5 m6 m7 m8 m9 lm fm; obtain ⟨m0, m1, m2, m3, m4, m5, m6, m7, m8, m9⟩ := At.z10 (HM.out.fut (w' := w6)).at0; have lm := (HM.out.fut (w' := w6)).lt; have fm := (HM.out.fut (w' := w6)).free)
            refine hK.out _ _ (by (try dsimp only); (first | exact ⟨hS1, hS2⟩ | exact ⟨Step.of, fun b o h _ => (fut wq _).cell (p := ⟨b, o, none⟩) h⟩)) (fun hHeld => ?_)
            clear hK K
            (try simp only [Act.put, List.setIfInBounds_toArray, List.set_cons_zero, List.set_cons_succ])
            refine wpAnyH_ready (rs := [9]) (by kernel_rfl) (by simp) ?_
            refine AllReadyH.cons (o := ⟨none, _, _, _, _, _⟩) rfl (fun K hK => ?_) AllReadyH.nil
            go_simp
            refine hK.out _ _ (by (try dsimp only); (exact ⟨⟨set4_below (fut w w6) (by omega) 2 _⟩, fun b o h hn => (set4_cell w6 hn.symm 2 _ o).trans ((fut wq w6).cell (p := ⟨b, o, none⟩) h)⟩)) (fun hHeld => ?_)
            clear hK K
            (try simp only [Act.put, List.setIfInBounds_toArray, List.set_cons_zero, List.set_cons_succ])
            refine wT 10 33 (by assumption) ?_
            refine wpAnyH_ready (rs := [11]) (by kernel_rfl) (by simp) ?_
            refine AllReadyH.cons (o := ⟨none, _, _, _, _, _⟩) rfl (fun K hK => ?_) AllReadyH.nil
            go_simp
            refine hK.out _ _ (by (try dsimp only); (exact ⟨⟨set4_below (set4_below (fut w w6) (by omega) 2 _) (by omega) 6 _⟩, fun b o h hn => (set4_cell _ hn.symm 6 _ o).trans ((set4_cell w6 hn.symm 2 _ o).trans ((fut wq w6).cell (p := ⟨b, o, none⟩) h))⟩)) (fun hHeld => ?_)
            clear hK K
            (try simp only [Act.put, List.setIfInBounds_toArray, List.set_cons_zero, List.set_cons_succ])
            refine wpAnyH_done (by kernel_rfl) ?_ _
            have HM6 := hide (stat_put (HM.out.fut (w' := w6)) (selV lessV m v) (selV (fun x y => lessV y x) x v))
            have HR6 := hide (((HRES.out.fut (w' := w6)).grown (set4_grown w6 (w.heap.size + 1) 2 (selV lessV m v)) (by simp)).grown (set4_grown _ (w.heap.size + 1) 6 (selV (fun x y => lessV y x) x v)) (by simp))
            have hb6 : Below w.heap.size w _ := set4_below (set4_below (fut w w6) (Nat.le_add_right w.heap.size 1) 2 (selV lessV m v)) (Nat.le_add_right w.heap.size 1) 6 (selV (fun x y => lessV y x) x v)
            obtain ⟨X, hX⟩ : ∃ X : World, X = set4 (set4 w6 (w.heap.size + 1) 2 (selV lessV m v)) (w.heap.size + 1) 6 (selV (fun x y => lessV y x) x v) := ⟨_, rfl⟩
            rw [← hX] at HM6 HR6 hb6
            unfold set4 at hX
            rw [← hX]
            clear hX m0 m1 m2 m3 m4 m5 m6 m7 m8 m9 lm fm
            have hsX : Step w X := ⟨hb6⟩
            rw [HMK.out, HXK.out] at HM6
            go_wp2_with fail
            go_roundw
            case rel => exact ⟨k + 1, by omega, by go_num, HR6.out, HM6.out, Step.of⟩
            case measure => simp [intOf]; omega
        · go_simp
          refine hK.out _ _ (by (try dsimp only); (first | exact ⟨hS1, hS2⟩ | exact ⟨Step.of, fun b o h _ => (fut wq _).cell (p := ⟨b, o, none⟩) h⟩)) (fun hHeld => ?_)
          clear hK K
          (try simp only [Act.put, List.setIfInBounds_toArray, List.set_cons_zero, List.set_cons_succ])
          refine wpAnyH_ready (rs := [1]) (by kernel_rfl) (by simp) ?_
          refine AllReadyH.cons (o := ⟨some 25, _, _, _, _, _⟩) rfl (fun K hK => ?_) AllReadyH.nil
          go_simp
          refine hK.out _ _ (by (try dsimp only); (first | exact ⟨hS1, hS2⟩ | exact ⟨Step.of, fun b o h _ => (fut wq _).cell (p := ⟨b, o, none⟩) h⟩)) (fun hHeld => ?_)
          clear hK K
          (try simp only [Act.put, List.setIfInBounds_toArray, List.set_cons_zero, List.set_cons_succ])
          refine wpAnyH_ready (rs := [3]) (by kernel_rfl) (by simp) ?_
          refine AllReadyH.cons (o := ⟨some 27, _, _, _, _, _⟩) rfl (fun K hK => ?_) AllReadyH.nil
          obtain ⟨hS1, hS2⟩ := hHeld
          go_simp
          (go_at_call 182; (with_reducible refine (L1.out _).mono ?_); rintro e w5 ⟨rfl, hs5⟩; clear m0 m1 m2 m3 m4 m5 m6 m7 m8 m9 lm fm; obtain ⟨m0, m1, m2, m3, m4, m5, m6, m7, m8, m9⟩ := At.z10 (HM.out.fut (w' := w5)).at0; have lm := (HM.out.fut (w' := w5)).lt; have fm := (HM.out.fut (w' := w5)).free)
          refine hK.out _ _ (by (try dsimp only); (first | exact ⟨hS1, hS2⟩ | exact ⟨Step.of, fun b o h _ => (fut wq _).cell (p := ⟨b, o, none⟩) h⟩)) (fun hHeld => ?_)
          clear hK K
          (try simp only [Act.put, List.setIfInBounds_toArray, List.set_cons_zero, List.set_cons_succ])
          refine wT 8 32 (by assumption) ?_
          refine wpAnyH_ready (rs := [7]) (by kernel_rfl) (by simp) ?_
          refine AllReadyH.cons (o := ⟨some 31, _, _, _, _, _⟩) rfl (fun K hK => ?_) AllReadyH.nil
          obtain ⟨hS1, hS2⟩ := hHeld
          go_simp
          (go_at_call 182; (with_reducible refine (L2.out _).mono ?_); rintro e w6 ⟨rfl, hs6⟩; clear m0 m1 m2 m3 m4 m5 m6 m7 m8 m9 lm fm; obtain ⟨m0, m1, m2, m3, m4, m5, m6, m7, m8, m9⟩ := At.z10 (HM.out.fut (w' := w6)).at0; have lm := (HM.out.fut (w' := w6)).lt; have fm := (HM.out.fut (w' := w6)).free)
          refine hK.out _ _ (by (try dsimp only); (first | exact ⟨hS1, hS2⟩ | exact ⟨Step.of, fun b o h _ => (fut wq _).cell (p := ⟨b, o, none⟩) h⟩)) (fun hHeld => ?_)
          clear hK K
          (try simp only [Act.put, List.setIfInBounds_toArray, List.set_cons_zero, List.set_cons_succ])
          refine wpAnyH_ready (rs := [9]) (by kernel_rfl) (by simp) ?_
          refine AllReadyH.cons (o := ⟨none, _, _, _, _, _⟩) rfl (fun K hK => ?_) AllReadyH.nil
          go_simp
          refine hK.out _ _ (by (try dsimp only); (exact ⟨⟨set4_below (fut w w6) (by omega) 2 _⟩, fun b o h hn => (set4_cell w6 hn.symm 2 _ o).trans ((fut wq w6).cell (p := ⟨b, o, none⟩) h)⟩)) (fun hHeld => ?_)
          clear hK K
          (try simp only [Act.put, List.setIfInBounds_toArray, List.set_cons_zero, List.set_cons_succ])
          refine wT 10 33 (by assumption) ?_
          refine wpAnyH_ready (rs := [11]) (by kernel_rfl) (by simp) ?_
          refine AllReadyH.cons (o := ⟨none, _, _, _, _, _⟩) rfl (fun K hK => ?_) AllReadyH.nil
          go_simp
          refine hK.out _ _ (by (try dsimp only); (exact ⟨⟨set4_below (set4_below (fut w w6) (by omega) 2 _) (by omega) 6 _⟩, fun b o h hn => (set4_cell _ hn.symm 6 _ o).trans ((set4_cell w6 hn.symm 2 _ o).trans ((fut wq w6).cell (p := ⟨b, o, none⟩) h))⟩)) (fun hHeld => ?_)
          clear hK K
          (try simp only [Act.put, List.setIfInBounds_toArray, List.set_cons_zero, List.set_cons_succ])
          refine wpAnyH_done (by kernel_rfl) ?_ _
          have HM6 := hide (stat_put (HM.out.fut (w' := w6)) (selV lessV m v) (selV (fun x y => lessV y x) x v))
          have HR6 := hide (((HRES.out.fut (w' := w6)).grown (set4_grown w6 (w.heap.size + 1) 2 (selV lessV m v)) (by simp)).grown (set4_grown _ (w.heap.size + 1) 6 (selV (fun x y => lessV y x) x v)) (by simp))
          have hb6 : Below w.heap.size w _ := set4_below (set4_below (fut w w6) (Nat.le_add_right w.heap.size 1) 2 (selV lessV m v)) (Nat.le_add_right w.heap.size 1) 6 (selV (fun x y => lessV y x) x v)
          obtain ⟨X, hX⟩ : ∃ X : World, X = set4 (set4 w6 (w.heap.size + 1) 2 (selV lessV m v)) (w.heap.size + 1) 6 (selV (fun x y => lessV y x) x v) := ⟨_, rfl⟩
          rw [← hX] at HM6 HR6 hb6
          unfold set4 at hX
          rw [← hX]
          clear hX m0 m1 m2 m3 m4 m5 m6 m7 m8 m9 lm fm
          have hsX : Step w X := ⟨hb6⟩
          rw [HMK.out, HXK.out] at HM6
          go_wp2_with fail
          go_roundw
          case rel => exact ⟨k + 1, by omega, by go_num, HR6.out, HM6.out, Step.of⟩
          case measure => simp [intOf]; omega
    · obtain rfl : k = vs.length := by omega
      rw [List.take_length] at hm
      obtain ⟨m0, m1, m2, m3, m4, m5, m6, m7, m8, m9⟩ := At.z10 hm.at0
      have lm := hm.lt
      obtain ⟨r0, r1, r2, r3, r4, r5, r6, r7, r8, r9⟩ := At.z10 hres.at0
      have lr := hres.lt
      have fr := hres.free
      clear hm hres
      go_wp2_with fail
      refine bodyPost_ret (v := .agg #[.int .i64 c, .int .i64 (nullsP vs : Int), .int .i64 (minP vs).kind, .int .i64 (minP vs).i, .bool (minP vs).b, .string (minP vs).s, .int .i64 (maxP vs).kind, .int .i64 (maxP vs).i, .bool (maxP vs).b, .string (maxP vs).s]) (by simp [results, Tryz.results161, go_sem, r0, r1, r2, r3, r4, r5, r6, r7, r8, r9]) rfl ?_
      exact ⟨rfl, Step.of⟩
end Go.Proofs.YtnphokhehacfnaaGreatDoor

namespace Go.Proofs.YtnphokhehacfnaaGreatDoor
open Go.RowKit

theorem eiTx : EI Tryz.prog 31 9 1 16 :=
  ⟨Tryz.underlying31, info_parts (show (Tryz.prog.info? 9).map (fun i => (i.zero, i.size, i.bytes)) = some (some (.string ⟨#[]⟩), 1, 16) by kernel_rfl) |>.elim fun i h => ⟨i, _, h.1, h.2.1, h.2.2.1, h.2.2.2, rfl⟩, by decide, by decide⟩
theorem txs_fit (l : List ByteArray) : Fit 1 (strCells l) := Fit.map (f := fun s : ByteArray => [Value.string s]) (fun s => ⟨rfl, fun u hu => by simp at hu; rw [hu]; rfl⟩) l
theorem cloneC_any (A : Option Addr) (cap : Nat) (cols : List Col) (w : World) (hat : SlAt w w.heap.size 3 A (cols.map Col.cells)) (hlen : cols.length ≤ 4398046511103) :
    Calls Tryz.prog 71 #[.slice A cols.length cap] w fun e w' => ∃ A' cap', e = .returned (.slice A' cols.length cap') ∧ cols.length ≤ cap' ∧ cap' ≤ maxLen ∧ Own w' w.heap.size 90 3 (.slice A' cols.length cap') (cols.map Col.cells) ∧ Below w.heap.size w w' := by
  cases A with
  | none =>
    have h0 : cols = [] := by
      cases cols with
      | nil => rfl
      | cons c r => obtain ⟨_, _, h, _⟩ := hat (by simp); cases h
    subst h0
    have hq := fun w => Lib.run_eql_slice_nil (P := Tryz.prog) w 22 90 none 0 cap 0 0 Tryz.underlying22
    go_enter Tryz.func71, Tryz.ntmps71
    go_wp2
    go_ret
    exact ⟨_, _, rfl, Nat.le_refl _, by simp [maxLen], Own.nil_ _ _ _ _, Below.refl _ _⟩
  | some ad =>
    have hq := fun w => Lib.run_eql_slice_nil (P := Tryz.prog) w 22 90 (some ad) cols.length cap 0 0 Tryz.underlying22
    go_enter Tryz.func71, Tryz.ntmps71
    go_wp2_with (at_builtin; refine wpList_append_sl rfl (.tmp 5) (.tmp 6) 22 rfl eiCol (base := w.heap.size) (xs := []) rfl ?own Fit.nil_ (ys := cols.map Col.cells) rfl (by simp) (hat.al _) (cols_fit _) (by simp; omega) (by simp) (N := cols.length) (by simp) ?_; rotate_left; intro A' cap' w' hc1 hc2 hown _ hbel)
    case own => exact ⟨by simp, .inr ⟨w.heap.size, 0, #[], rfl, Nat.le_refl _, heap_alloc_new w _, by simp, by simp, by simp, by simp⟩⟩
    go_ret
    exact ⟨_, _, rfl, hc1, hc2, hown, (below_a1 w _).trans hbel⟩

theorem cloneV_any (A : Option Addr) (cap : Nat) (cols : List Val) (w : World) (hat : SlAt w w.heap.size 4 A (cols.map Val.cells)) (hlen : cols.length ≤ 3518437208780) :
    Calls Tryz.prog 86 #[.slice A cols.length cap] w fun e w' => ∃ A' cap', e = .returned (.slice A' cols.length cap') ∧ cols.length ≤ cap' ∧ cap' ≤ maxLen ∧ Own w' w.heap.size 36 4 (.slice A' cols.length cap') (cols.map Val.cells) ∧ Below w.heap.size w w' := by
  cases A with
  | none =>
    have h0 : cols = [] := by
      cases cols with
      | nil => rfl
      | cons c r => obtain ⟨_, _, h, _⟩ := hat (by simp); cases h
    subst h0
    have hq := fun w => Lib.run_eql_slice_nil (P := Tryz.prog) w 65 36 none 0 cap 0 0 Tryz.underlying65
    go_enter Tryz.func86, Tryz.ntmps86
    go_wp2
    go_ret
    exact ⟨_, _, rfl, Nat.le_refl _, by simp [maxLen], Own.nil_ _ _ _ _, Below.refl _ _⟩
  | some ad =>
    have hq := fun w => Lib.run_eql_slice_nil (P := Tryz.prog) w 65 36 (some ad) cols.length cap 0 0 Tryz.underlying65
    go_enter Tryz.func86, Tryz.ntmps86
    go_wp2_with (at_builtin; refine wpList_append_sl rfl (.tmp 5) (.tmp 6) 65 rfl eiV4 (base := w.heap.size) (xs := []) rfl ?own Fit.nil_ (ys := cols.map Val.cells) rfl (by simp) (hat.al _) (vals_fit _) (by simp; omega) (by simp) (N := cols.length) (by simp) ?_; rotate_left; intro A' cap' w' hc1 hc2 hown _ hbel)
    case own => exact ⟨by simp, .inr ⟨w.heap.size, 0, #[], rfl, Nat.le_refl _, heap_alloc_new w _, by simp, by simp, by simp, by simp⟩⟩
    go_ret
    exact ⟨_, _, rfl, hc1, hc2, hown, (below_a1 w _).trans hbel⟩

theorem cloneF_any (A : Option Addr) (cap : Nat) (cols : List Fld) (w : World) (hat : SlAt w w.heap.size 3 A (cols.map Fld.cells)) (hlen : cols.length ≤ 5864062014800) :
    Calls Tryz.prog 85 #[.slice A cols.length cap] w fun e w' => ∃ A' cap', e = .returned (.slice A' cols.length cap') ∧ cols.length ≤ cap' ∧ cap' ≤ maxLen ∧ Own w' w.heap.size 92 3 (.slice A' cols.length cap') (cols.map Fld.cells) ∧ Below w.heap.size w w' := by
  cases A with
  | none =>
    have h0 : cols = [] := by
      cases cols with
      | nil => rfl
      | cons c r => obtain ⟨_, _, h, _⟩ := hat (by simp); cases h
    subst h0
    have hq := fun w => Lib.run_eql_slice_nil (P := Tryz.prog) w 25 92 none 0 cap 0 0 Tryz.underlying25
    go_enter Tryz.func85, Tryz.ntmps85
    go_wp2
    go_ret
    exact ⟨_, _, rfl, Nat.le_refl _, by simp [maxLen], Own.nil_ _ _ _ _, Below.refl _ _⟩
  | some ad =>
    have hq := fun w => Lib.run_eql_slice_nil (P := Tryz.prog) w 25 92 (some ad) cols.length cap 0 0 Tryz.underlying25
    go_enter Tryz.func85, Tryz.ntmps85
    go_wp2_with (at_builtin; refine wpList_append_sl rfl (.tmp 5) (.tmp 6) 25 rfl eiFld (base := w.heap.size) (xs := []) rfl ?own Fit.nil_ (ys := cols.map Fld.cells) rfl (by simp) (hat.al _) (flds_fit _) (by simp; omega) (by simp) (N := cols.length) (by simp) ?_; rotate_left; intro A' cap' w' hc1 hc2 hown _ hbel)
    case own => exact ⟨by simp, .inr ⟨w.heap.size, 0, #[], rfl, Nat.le_refl _, heap_alloc_new w _, by simp, by simp, by simp, by simp⟩⟩
    go_ret
    exact ⟨_, _, rfl, hc1, hc2, hown, (below_a1 w _).trans hbel⟩

theorem cloneS_any (A : Option Addr) (cap : Nat) (cols : List ByteArray) (w : World) (hat : SlAt w w.heap.size 1 A (strCells cols)) (hlen : cols.length ≤ 8796093022207) :
    Calls Tryz.prog 127 #[.slice A cols.length cap] w fun e w' => ∃ A' cap', e = .returned (.slice A' cols.length cap') ∧ cols.length ≤ cap' ∧ cap' ≤ maxLen ∧ Own w' w.heap.size 9 1 (.slice A' cols.length cap') (strCells cols) ∧ Below w.heap.size w w' := by
  cases A with
  | none =>
    have h0 : cols = [] := by
      cases cols with
      | nil => rfl
      | cons c r => obtain ⟨_, _, h, _⟩ := hat (by simp [strCells]); cases h
    subst h0
    have hq := fun w => Lib.run_eql_slice_nil (P := Tryz.prog) w 31 9 none 0 cap 0 0 Tryz.underlying31
    go_enter Tryz.func127, Tryz.ntmps127
    go_wp2
    go_ret
    exact ⟨_, _, rfl, Nat.le_refl _, by simp [maxLen], Own.nil_ _ _ _ _, Below.refl _ _⟩
  | some ad =>
    have hq := fun w => Lib.run_eql_slice_nil (P := Tryz.prog) w 31 9 (some ad) cols.length cap 0 0 Tryz.underlying31
    go_enter Tryz.func127, Tryz.ntmps127
    go_wp2_with (at_builtin; refine wpList_append_sl rfl (.tmp 5) (.tmp 6) 31 rfl eiTx (base := w.heap.size) (xs := []) rfl ?own Fit.nil_ (ys := strCells cols) rfl (by simp [strCells]) (hat.al _) (txs_fit _) (by simp [strCells]; omega) (by simp) (N := cols.length) (by simp [strCells]) ?_; rotate_left; intro A' cap' w' hc1 hc2 hown _ hbel)
    case own => exact ⟨by simp, .inr ⟨w.heap.size, 0, #[], rfl, Nat.le_refl _, heap_alloc_new w _, by simp, by simp, by simp, by simp⟩⟩
    go_ret
    exact ⟨_, _, rfl, hc1, hc2, hown, (below_a1 w _).trans hbel⟩

end Go.Proofs.YtnphokhehacfnaaGreatDoor

