/-
  The document's ways: that it answers, and how long texts it gives.
-/
import Derived.Test.YtinpnginjpfbpaaDoorVf
import Derived.Test.YtinpnginjpfbpaaDoorVd
namespace Go.Proofs.YtinpnginjpfbpaaDoor
open Go.RowKit

/-- What a region that turns one block leaves. -/
theorem sb_call {w wB wc w5 : World} {g : Nat} (h : (Below w.heap.size w wc ∧ wB.heap.size ≤ wc.heap.size) ∧ ∀ b o, b < wB.heap.size → b ≠ g → wc.cell? ⟨b, o, none⟩ = wB.cell? ⟨b, o, none⟩) (hz : w.heap.size ≤ wc.heap.size) [f : Fut wc w5] :
    (Below w.heap.size w w5 ∧ wB.heap.size ≤ w5.heap.size) ∧ ∀ b o, b < wB.heap.size → b ≠ g → w5.cell? ⟨b, o, none⟩ = wB.cell? ⟨b, o, none⟩ :=
  ⟨⟨h.1.1.trans (f.below.mono hz), Nat.le_trans h.1.2 f.below.size⟩, fun b o hb hg => ((bcell f.below).1 b o (Nat.lt_of_lt_of_le hb h.1.2)).trans (h.2 b o hb hg)⟩
theorem sb_put {w wB wc : World} {g o : Nat} (h : (Below w.heap.size w wc ∧ wB.heap.size ≤ wc.heap.size) ∧ ∀ b o, b < wB.heap.size → b ≠ g → wc.cell? ⟨b, o, none⟩ = wB.cell? ⟨b, o, none⟩) (hg : w.heap.size ≤ g) (u : Value) :
    (Below w.heap.size w (wc.setCell ⟨g, o, none⟩ u) ∧ wB.heap.size ≤ (wc.setCell ⟨g, o, none⟩ u).heap.size) ∧ ∀ b o', b < wB.heap.size → b ≠ g → (wc.setCell ⟨g, o, none⟩ u).cell? ⟨b, o', none⟩ = wB.cell? ⟨b, o', none⟩ :=
  ⟨⟨h.1.1.setCell (p := ⟨g, o, none⟩) hg u, by simpa [World.setCell] using h.1.2⟩, fun b o' hb hne => (World.cell?_setCell_far wc ⟨g, o, none⟩ ⟨b, o', none⟩ u (by simpa using fun e => hne e.symm)).trans (h.2 b o' hb hne)⟩

def SBd (w wB : World) (g : Nat) (wc : World) : Prop := (Below w.heap.size w wc ∧ wB.heap.size ≤ wc.heap.size) ∧ ∀ b o, b < wB.heap.size → b ≠ g → wc.cell? ⟨b, o, none⟩ = wB.cell? ⟨b, o, none⟩
theorem sb_self {w wB : World} {g : Nat} (h : Below w.heap.size w wB) : (Below w.heap.size w wB ∧ wB.heap.size ≤ wB.heap.size) ∧ ∀ b o, b < wB.heap.size → b ≠ g → wB.cell? ⟨b, o, none⟩ = wB.cell? ⟨b, o, none⟩ := ⟨⟨h, Nat.le_refl _⟩, fun _ _ _ _ => rfl⟩
theorem SlAt.sb {w wB wc : World} {g size : Nat} {A : Option Addr} {l : List (List Value)} (h : SlAt wB wB.heap.size size A l) (hs : SBd w wB g wc) (ha : Abv (g + 1) A) : SlAt wc wc.heap.size size A l := fun hl => by
  obtain ⟨b, off, e, hlt, hc⟩ := h hl
  have hb := ha b off e
  exact ⟨b, off, e, Nat.lt_of_lt_of_le hlt hs.1.2, fun i cs hi j u hu => (hs.2 b _ hlt (by omega)).trans (hc i cs hi j u hu)⟩

set_option maxRecDepth 100000 in
set_option maxHeartbeats 16000000 in
theorem ways_any {w0 : World} (k : Int) (vs : List Val) (Av : Option Addr) (cv : Nat) (w : World) (hv : SlAt w0 w0.heap.size 4 Av (vs.map Val.cells)) [f0 : Fut w0 w] (hl : vs.length ≤ 4096) (hvs : ∀ v ∈ vs, v.s.size ≤ 64) :
    Calls Tryd.prog 48 #[.int .i64 k, .slice Av vs.length cv] w fun e w' => ∃ a b c : ByteArray, e = .returned (.agg #[.string a, .string b, .string c]) ∧ a.size ≤ 400000 ∧ b.size ≤ 400000 ∧ c.size ≤ 400000 ∧ Step w w' := by
  have z0 := f0.below.size
  have HVS := hide hvs
  clear hvs
  obtain ⟨W, hW⟩ : ∃ W, W = (w.alloc (.cells #[.string ⟨#[]⟩, .string ⟨#[]⟩, .string ⟨#[]⟩] 73)).alloc (.cells #[.string ⟨#[]⟩, .string ⟨#[]⟩, .string ⟨#[]⟩] 73) := ⟨_, rfl⟩
  have SW : Step w W := by rw [hW]; exact Step.of
  have HG4 : Hid (Blk W w.heap.size 73 [.string ⟨#[]⟩, .string ⟨#[]⟩, .string ⟨#[]⟩]) := by rw [hW]; exact (Blk.new w [.string ⟨#[]⟩, .string ⟨#[]⟩, .string ⟨#[]⟩] 73).alloc _
  have HG5 : Hid (Blk W (w.heap.size + 1) 73 [.string ⟨#[]⟩, .string ⟨#[]⟩, .string ⟨#[]⟩]) := by rw [hW]; exact Blk.new_at (by simp) [.string ⟨#[]⟩, .string ⟨#[]⟩, .string ⟨#[]⟩] 73
  obtain ⟨g4, hg4⟩ : ∃ g4, g4 = w.heap.size := ⟨_, rfl⟩
  obtain ⟨g, hg⟩ : ∃ g, g = w.heap.size + 1 := ⟨_, rfl⟩
  have HW := hide hW
  have hwg : w.heap.size ≤ g := by omega
  have hwg4 : w.heap.size ≤ g4 := by omega
  have hne4 : g4 ≠ g := by omega
  rw [← hg4] at HG4
  rw [← hg] at HG5
  have HGG := hide hg; have HGG4 := hide hg4
  clear hW hg hg4
  go_enter Tryd.func48, Tryd.ntmps48
  go_upto_region 2 with (fail)
  rw [← HW.out, ← HGG.out, ← HGG4.out]
  by_cases hk : k = 2
  · subst hk
    go_wp2_with fail
    go_loopw [6, 7, 8] (fun bv iv _ wr => ∃ (j : Nat) (A1 : Option Addr) (c1 : Nat) (l : List Int), j ≤ vs.length ∧ iv = .int .i64 j ∧ bv = .slice A1 j c1 ∧ Hid (l.length = j) ∧ Hid (∀ x ∈ l, 0 ≤ x ∧ x ≤ 1) ∧ Own wr W.heap.size 3 1 (.slice A1 j c1) (intCells l) ∧ Step W wr) (fun _ iv _ _ => vs.length - (intOf iv).toNat)
    case atStart => exact ⟨0, none, 0, [], Nat.zero_le _, rfl, rfl, rfl, fun x hx => by simp at hx, Own.nil_ _ _ _ _, Step.of⟩
    case round =>
      obtain ⟨j, A1, c1, l, hj, rfl, rfl, HLL, HLB, ho1, hst⟩ := hrel
      have HO1 := hide ho1
      clear ho1
      obtain ⟨wo, rfl⟩ : ∃ x : World, x = wr := ⟨_, rfl⟩
      have hzo := hst.size
      have hzW := SW.size
      by_cases hlt : j < vs.length
      · obtain ⟨b, off, rfl, hb, hc⟩ := hv.elem (w' := wo) inferInstance (k := j) (by simpa using hlt)
        obtain ⟨v, hvk⟩ : ∃ v, vs[j]? = some v := ⟨_, List.getElem?_eq_getElem hlt⟩
        obtain ⟨v0, v1, v2, v3⟩ := At.l4 (hc j v.cells (by simp [hvk]))
        have lb : b < wo.heap.size := by omega
        have hjl : (j : Int) < (vs.length : Int) := by omega
        have hj0 : (0 : Int) ≤ (j : Int) := by omega
        have HIL : Hid ((intCells l).length = j) := by show _ = _; rw [intCells_len, HLL.out]
        clear hc hvk
        obtain ⟨y, hy⟩ : ∃ y : Int, y = if v.b then 1 else 0 := ⟨_, rfl⟩
        have hy01 : 0 ≤ y ∧ y ≤ 1 := by rw [hy]; split <;> omega
        have HOW := hide (HO1.out.fut (w' := wo.alloc (.cells #[.int .i64 y] 3)))
        have HN1 := hide (SlAt.one wo 1 [.int .i64 y] 3)
        cases hvb : v.b with
        | true =>
          rw [hvb] at v2 hy
          simp only [if_true] at hy
          subst hy
          go_wp2_with (at_builtin; go_loud (refine wpList_append_sl rfl (.tmp 33) (.tmp 35) 51 rfl eiInt (base := W.heap.size) (xs := intCells l) rfl HOW.out (int_fit _) (ys := [[.int .i64 1]]) rfl (by simp) HN1.out (int_fit [1]) (by rw [HIL.out]; show (_ + 1) * 8 ≤ _; omega) (fut W (wo.alloc (.cells #[.int .i64 1] 3))).size (N := j + 1) (by rw [HIL.out]; rfl) ?_; intro A7 c7 w7 hq1 hq2 hown7 hgr7 hbel7; have H7 := hide hown7; have hs7 : Step W w7 := ⟨(fut W (wo.alloc (.cells #[.int .i64 1] 3))).trans hbel7⟩; clear hown7 hgr7 hbel7))
          go_roundw
          case rel =>
            refine ⟨j + 1, A7, c7, l ++ [1], by omega, by go_num, by go_num, by show _ = _; rw [List.length_append, HLL.out]; rfl, ?_, by have h_ := H7.out; simpa [intCells] using h_, hs7⟩
            intro x hx
            rcases List.mem_append.1 hx with hx | hx
            · exact HLB.out x hx
            · simp at hx; omega
          case measure => simp [intOf]; omega
        | false =>
          rw [hvb] at v2 hy
          simp only [Bool.false_eq_true, if_false] at hy
          subst hy
          go_wp2_with (at_builtin; go_loud (refine wpList_append_sl rfl (.tmp 33) (.tmp 35) 51 rfl eiInt (base := W.heap.size) (xs := intCells l) rfl HOW.out (int_fit _) (ys := [[.int .i64 0]]) rfl (by simp) HN1.out (int_fit [0]) (by rw [HIL.out]; show (_ + 1) * 8 ≤ _; omega) (fut W (wo.alloc (.cells #[.int .i64 0] 3))).size (N := j + 1) (by rw [HIL.out]; rfl) ?_; intro A7 c7 w7 hq1 hq2 hown7 hgr7 hbel7; have H7 := hide hown7; have hs7 : Step W w7 := ⟨(fut W (wo.alloc (.cells #[.int .i64 0] 3))).trans hbel7⟩; clear hown7 hgr7 hbel7))
          go_roundw
          case rel =>
            refine ⟨j + 1, A7, c7, l ++ [0], by omega, by go_num, by go_num, by show _ = _; rw [List.length_append, HLL.out]; rfl, ?_, by have h_ := H7.out; simpa [intCells] using h_, hs7⟩
            intro x hx
            rcases List.mem_append.1 hx with hx | hx
            · exact HLB.out x hx
            · simp at hx; omega
          case measure => simp [intOf]; omega
      · obtain rfl : j = vs.length := by omega
        have HSL := hide (HO1.out.sl (int_fit l).len)
        have PK := fun w' [Fut wo w'] => pack_any (w0 := wo) l A1 c1 1 w' HSL.out (by rw [HLL.out]; exact hl) (by omega) (fun x hx => by have := HLB.out x hx; omega)
        rw [HLL.out] at PK
        simp only [show ((1 : Nat) : Int) = 1 from rfl] at PK
        have PK := hide PK
        have HB5W := HG5; have HB4W := HG4
        go_upto_region 17 with (go_at_call 49; (with_reducible refine (PK.out _).mono ?_); rintro e w5 ⟨z, code, rfl, hz, hs5⟩; have hb_ := HG5.out.fut (w' := w5); obtain ⟨x0, x1, x2⟩ := At.z3 hb_.at0; have fx := hb_.free 0; have lx := hb_.lt; clear hb_)
        clear x0 x1 x2 fx lx
        obtain ⟨wo2, hwo2⟩ : ∃ wo2, wo2 = w5.setCell ⟨g, 0, none⟩ (.string z) := ⟨_, rfl⟩
        have HB5_ : Hid (Blk wo2 g 73 [.string z, .string ⟨#[]⟩, .string ⟨#[]⟩]) := by rw [hwo2]; exact (HG5.out.fut (w' := w5)).set_ 0 _
        have HB4_ : Hid (Blk wo2 g4 73 [.string ⟨#[]⟩, .string ⟨#[]⟩, .string ⟨#[]⟩]) := by rw [hwo2]; exact (HG4.out.fut (w' := w5)).far (p := ⟨g, 0, none⟩) hne4 _
        have hst2 : Step w wo2 := by rw [hwo2]; exact ⟨Below.setCell (p := ⟨g, 0, none⟩) (fut w w5) hwg _⟩
        rw [← hwo2]
        clear hwo2 hst
        have hz0 : z.size ≤ 303104 := by omega
        have hzo := hst2.size
        have HCT := hide (fun w' [Fut w0 w'] => cut_any vs Av cv w' hv hl (fun v hv_ => Nat.le_trans (HVS.out v hv_) (by decide)))
        have HBD := hide (fun w' [Fut w0 w'] => build_any vs Av cv w' hv hl (fun v hv_ => Nat.le_trans (HVS.out v hv_) (by decide)))
        have HV1 := fun (n : Nat) (h : n ≤ 4096) (w' : World) => varint_any (n : Int) w' (by omega) (by omega)
        unfold Txt at HV1
        have HV1 := hide HV1
        have HSZ : Hid (∀ u : Val, (∃ v ∈ vs, u = clean v) → u.s.size ≤ 64) := fun u ⟨v, hv_, e⟩ => by
          have h1 := HVS.out v hv_
          rcases clean_s_le v with h | h <;> rw [e] <;> omega
        go_upto_region 18 with (go_at_call 62; (with_reducible refine (HCT.out _).mono ?_); rintro e w6 ⟨X1, d1, ms, X2, d2, us, rfl, hml, hul, hms, hus, hx1, hx2, hs6⟩; have HX1 := hide (hx1.sl (int_fit ms).len); have HX2 := hide (hx2.sl (vals_fit us).len); have HML := hide hml; have HMS := hide hms; have HUS := hide hus; have HA1 := hide hx1.abv; have HA2 := hide hx2.abv; clear hx1 hx2 hml hms hus)
        have hz6 := (fut wo2 w6).size
        have HC6 := hide (HB5_.out.fut (w' := w6)); have HD6 := hide (HB4_.out.fut (w' := w6))
        have V6 := hide (fun w' => HV1.out us.length (by omega) w')
        go_upto_region 19 with (go_at_call 51; (with_reducible refine (V6.out _).mono ?_); rintro e w7 ⟨t7, rfl, ht7, hs7⟩; have hb_ := HC6.out.fut (w' := w7); obtain ⟨x0, x1, x2⟩ := At.z3 hb_.at0; have fx := hb_.free 1; have lx := hb_.lt; clear hb_)
        clear x0 x1 x2 fx lx
        have hgw : g < wo2.heap.size := HB5_.out.lt
        obtain ⟨Y7, hY7⟩ : ∃ Y7, Y7 = w7.setCell ⟨g, 1, none⟩ (.string t7) := ⟨_, rfl⟩
        have HB7 : Hid (Blk Y7 g 73 [.string z, .string t7, .string ⟨#[]⟩]) := by rw [hY7]; exact (HC6.out.fut (w' := w7)).set_ 1 _
        have HD7 : Hid (Blk Y7 g4 73 [.string ⟨#[]⟩, .string ⟨#[]⟩, .string ⟨#[]⟩]) := by rw [hY7]; exact (HD6.out.fut (w' := w7)).far (p := ⟨g, 1, none⟩) hne4 _
        have HSB7 : Hid (SBd w w6 g Y7) := by rw [hY7]; exact sb_put (sb_call (w5 := w7) (sb_self (g := g) (fut w w6)) (fut w w6).size) hwg _
        rw [← hY7]
        clear hY7
        go_wp2_with fail
        go_loopw [14] (fun iv wr => ∃ (j : Nat) (z1 : ByteArray), j ≤ us.length ∧ iv = .int .i64 j ∧ Blk wr g 73 [.string z, .string z1, .string ⟨#[]⟩] ∧ Blk wr g4 73 [.string ⟨#[]⟩, .string ⟨#[]⟩, .string ⟨#[]⟩] ∧ z1.size ≤ 10 + j * 84 ∧ SBd w w6 g wr) (fun iv _ => us.length - (intOf iv).toNat)
        case atStart => exact ⟨0, t7, Nat.zero_le _, rfl, HB7.out, HD7.out, by omega, HSB7.out⟩
        case round =>
          obtain ⟨j, z1, hj, rfl, hb5, hb4, hz1, hsb⟩ := hrel
          have HE5 := hide hb5; have HE4 := hide hb4; have HSB := hide hsb
          clear hb5 hb4 HB7 HD7 HSB7
          obtain ⟨wq, rfl⟩ : ∃ x : World, x = wr := ⟨_, rfl⟩
          have Sq : Step w wq := ⟨hsb.1.1⟩
          have hzq := Sq.size
          clear hsb
          by_cases hlt2 : j < us.length
          · have hX1 := SlAt.sb HX1.out HSB.out (HA1.out.mono (m := g + 1) (by omega))
            have hX2 := SlAt.sb HX2.out HSB.out (HA2.out.mono (m := g + 1) (by omega))
            obtain ⟨b1, o1, rfl, hb1, hc1⟩ := hX1.elem (w' := wq) inferInstance (k := j) (by rw [intCells_len, HML.out]; exact hlt2)
            obtain ⟨b2, o2, rfl, hb2, hc2⟩ := hX2.elem (w' := wq) inferInstance (k := j) (by simpa using hlt2)
            obtain ⟨y, hy⟩ : ∃ y, ms[j]? = some y := ⟨_, List.getElem?_eq_getElem (by rw [HML.out]; exact hlt2)⟩
            obtain ⟨u, hu⟩ : ∃ u, us[j]? = some u := ⟨_, List.getElem?_eq_getElem hlt2⟩
            have y0 := At.l1 (hc1 j [.int .i64 y] (by simp [intCells, hy]))
            simp only [Nat.mul_one] at y0
            obtain ⟨u0, u1, u2, u3⟩ := At.l4 (hc2 j u.cells (by simp [hu]))
            have hbg1 : b1 ≠ g := by have := HA1.out b1 o1 rfl; omega
            have hbg2 : b2 ≠ g := by have := HA2.out b2 o2 rfl; omega
            have hjl2 : (j : Int) < (us.length : Int) := by omega
            have hj20 : (0 : Int) ≤ (j : Int) := by omega
            have hyb := HMS.out y (List.mem_of_getElem? hy)
            have hub := HSZ.out u (HUS.out u (List.mem_of_getElem? hu))
            have VY := fun w' => varint_any y w' (by omega) (by omega)
            unfold Txt at VY
            have VY := hide VY
            have PL := fun w' => plainT_any u w' (by omega)
            unfold Txt at PL
            have PL := hide PL
            obtain ⟨x0, x1, x2⟩ := At.z3 HE5.out.at0
            have fx := HE5.out.free 1
            have lx := HE5.out.lt
            have HS0 := hide (sb_self (g := g) (fut w wq))
            clear hc1 hc2 hy hu hX1 hX2
            go_upto_region 22 with (fail)
            refine wp_region_held_drew (S := (fun w' => (Below w.heap.size w w' ∧ wq.heap.size ≤ w'.heap.size) ∧ (∀ b o, b < wq.heap.size → b ≠ g → w'.cell? ⟨b, o, none⟩ = wq.cell? ⟨b, o, none⟩))) (by kernel_rfl) (by (try dsimp only); (first | exact hHeld | exact HS0.out | exact ⟨⟨HS0.out.1.1.drew, HS0.out.1.2⟩, HS0.out.2⟩ | exact hT9 | exact hT8)) (fun hHeld => ?_)
            refine wpAnyH_take (i := 0) (oi := ⟨some 74, _, _, _, _, _⟩) (v := ?_) rfl (by kernel_rfl) (by kernel_rfl) (by kernel_rfl) (fun _ _ _ h => h) (Or.inl ⟨by rfl, ?_⟩) (by assumption) ?_
            rotate_left
            · ((intro w hSw); (try dsimp only at hSw); go_simp; (try with_reducible rfl))
            (try simp only [Act.put, List.setIfInBounds_toArray, List.set_cons_zero, List.set_cons_succ])
            refine wpAnyH_take (i := 2) (oi := ⟨some 76, _, _, _, _, _⟩) (v := ?_) rfl (by kernel_rfl) (by kernel_rfl) (by kernel_rfl) (fun _ _ _ h => h) (Or.inl ⟨by rfl, ?_⟩) (by assumption) ?_
            rotate_left
            · ((intro w hSw); (try dsimp only at hSw); go_simp; (try with_reducible rfl))
            (try simp only [Act.put, List.setIfInBounds_toArray, List.set_cons_zero, List.set_cons_succ])
            refine wpAnyH_take (i := 3) (oi := ⟨some 77, _, _, _, _, _⟩) (v := ?_) rfl (by kernel_rfl) (by kernel_rfl) (by kernel_rfl) (fun _ _ _ h => h) (Or.inl ⟨by rfl, ?_⟩) (by assumption) ?_
            rotate_left
            · ((intro w hSw); (try dsimp only at hSw); go_simp; (try with_reducible rfl))
            (try simp only [Act.put, List.setIfInBounds_toArray, List.set_cons_zero, List.set_cons_succ])
            refine wpAnyH_take (i := 8) (oi := ⟨some 82, _, _, _, _, _⟩) (v := ?_) rfl (by kernel_rfl) (by kernel_rfl) (by kernel_rfl) (fun _ _ _ h => h) (Or.inl ⟨by rfl, ?_⟩) (by assumption) ?_
            rotate_left
            · ((intro w hSw); (try dsimp only at hSw); go_simp; (try with_reducible rfl))
            (try simp only [Act.put, List.setIfInBounds_toArray, List.set_cons_zero, List.set_cons_succ])
            refine wpAnyH_take (i := 9) (oi := ⟨some 83, _, _, _, _, _⟩) (v := ?_) rfl (by kernel_rfl) (by kernel_rfl) (by kernel_rfl) (fun _ _ _ h => h) (Or.inl ⟨by rfl, ?_⟩) (by assumption) ?_
            rotate_left
            · ((intro w hSw); (try dsimp only at hSw); go_simp; (try with_reducible rfl))
            (try simp only [Act.put, List.setIfInBounds_toArray, List.set_cons_zero, List.set_cons_succ])
            refine wpAnyH_take (i := 4) (oi := ⟨some 78, _, _, _, _, _⟩) (v := ?_) rfl (by kernel_rfl) (by kernel_rfl) (by kernel_rfl) (fun _ _ _ h => h) (Or.inl ⟨by rfl, ?_⟩) (by assumption) ?_
            rotate_left
            · ((intro w hSw); (try dsimp only at hSw); go_simp; (try with_reducible rfl))
            (try simp only [Act.put, List.setIfInBounds_toArray, List.set_cons_zero, List.set_cons_succ])
            refine wpAnyH_take (i := 10) (oi := ⟨some 84, _, _, _, _, _⟩) (v := ?_) rfl (by kernel_rfl) (by kernel_rfl) (by kernel_rfl) (fun _ _ _ h => h) (Or.inl ⟨by rfl, ?_⟩) (by assumption) ?_
            rotate_left
            · ((intro w hSw); (try dsimp only at hSw); go_simp; (try with_reducible rfl))
            (try simp only [Act.put, List.setIfInBounds_toArray, List.set_cons_zero, List.set_cons_succ])
            refine wpAnyH_take (i := 5) (oi := ⟨some 79, _, _, _, _, _⟩) (v := ?_) rfl (by kernel_rfl) (by kernel_rfl) (by kernel_rfl) (fun _ _ _ h => h) (Or.inl ⟨by rfl, ?_⟩) (by assumption) ?_
            rotate_left
            · ((intro w hSw); (try dsimp only at hSw); go_simp; (try with_reducible rfl))
            (try simp only [Act.put, List.setIfInBounds_toArray, List.set_cons_zero, List.set_cons_succ])
            refine wpAnyH_take (i := 11) (oi := ⟨some 85, _, _, _, _, _⟩) (v := ?_) rfl (by kernel_rfl) (by kernel_rfl) (by kernel_rfl) (fun _ _ _ h => h) (Or.inl ⟨by rfl, ?_⟩) (by assumption) ?_
            rotate_left
            · ((intro w hSw); (try dsimp only at hSw); go_simp; (try with_reducible rfl))
            (try simp only [Act.put, List.setIfInBounds_toArray, List.set_cons_zero, List.set_cons_succ])
            refine wpAnyH_ready (rs := [1, 6]) (by kernel_rfl) (by simp) ?_
            refine AllReadyH.cons (o := ⟨some 75, _, _, _, _, _⟩) rfl (fun K hK => ?_) (AllReadyH.cons (o := ⟨some 80, _, _, _, _, _⟩) rfl (fun K hK => ?_) AllReadyH.nil)
            · go_simp
              refine hK.out _ _ (by (try dsimp only); (first | exact hHeld | exact HS0.out | exact ⟨⟨HS0.out.1.1.drew, HS0.out.1.2⟩, HS0.out.2⟩ | exact hT9 | exact hT8)) (fun hHeld => ?_)
              clear hK K
              (try simp only [Act.put, List.setIfInBounds_toArray, List.set_cons_zero, List.set_cons_succ])
              refine wpAnyH_ready (rs := [6]) (by kernel_rfl) (by simp) ?_
              refine AllReadyH.cons (o := ⟨some 80, _, _, _, _, _⟩) rfl (fun K hK => ?_) AllReadyH.nil
              obtain ⟨hS1, hS2⟩ := hHeld
              go_simp
              (go_at_call 51; (with_reducible refine (VY.out _).mono ?_); rintro e w8 ⟨t8, rfl, ht8, hs8⟩; have hT8 := sb_call (w5 := w8) (g := g) HS0.out hzq; have hcat1 : ¬ 9223372036854775807 < z1.size + t8.size := (by omega); clear x0 x1 x2 fx lx; have hb_ := HE5.out.fut (w' := w8); obtain ⟨x0, x1, x2⟩ := At.z3 hb_.at0; have fx := hb_.free 1; have lx := hb_.lt; clear hb_)
              refine hK.out _ _ (by (try dsimp only); (first | exact hHeld | exact HS0.out | exact ⟨⟨HS0.out.1.1.drew, HS0.out.1.2⟩, HS0.out.2⟩ | exact hT9 | exact hT8)) (fun hHeld => ?_)
              clear hK K
              (try simp only [Act.put, List.setIfInBounds_toArray, List.set_cons_zero, List.set_cons_succ])
              refine wpAnyH_take (i := 7) (oi := ⟨some 81, _, _, _, _, _⟩) (v := ?_) rfl (by kernel_rfl) (by kernel_rfl) (by kernel_rfl) (fun _ _ _ h => h) (Or.inl ⟨by rfl, ?_⟩) (by assumption) ?_
              rotate_left
              · ((intro w hSw); (try dsimp only at hSw); go_simp; (try with_reducible rfl))
              (try simp only [Act.put, List.setIfInBounds_toArray, List.set_cons_zero, List.set_cons_succ])
              refine wpAnyH_ready (rs := [12]) (by kernel_rfl) (by simp) ?_
              refine AllReadyH.cons (o := ⟨some 86, _, _, _, _, _⟩) rfl (fun K hK => ?_) AllReadyH.nil
              obtain ⟨hS1, hS2⟩ := hHeld
              go_simp
              (go_at_call 61; (with_reducible refine (PL.out _).mono ?_); rintro e w9 ⟨t9, rfl, ht9, hs9⟩; have hT9 := sb_call (w5 := w9) (g := g) hT8 (Nat.le_trans hzq hT8.1.2); have hcat2 : ¬ 9223372036854775807 < z1.size + t8.size + t9.size := (by omega); clear x0 x1 x2 fx lx; have hb_ := HE5.out.fut (w' := w9); obtain ⟨x0, x1, x2⟩ := At.z3 hb_.at0; have fx := hb_.free 1; have lx := hb_.lt; clear hb_)
              refine hK.out _ _ (by (try dsimp only); (first | exact hHeld | exact HS0.out | exact ⟨⟨HS0.out.1.1.drew, HS0.out.1.2⟩, HS0.out.2⟩ | exact hT9 | exact hT8)) (fun hHeld => ?_)
              clear hK K
              (try simp only [Act.put, List.setIfInBounds_toArray, List.set_cons_zero, List.set_cons_succ])
              refine wpAnyH_take (i := 13) (oi := ⟨some 87, _, _, _, _, _⟩) (v := ?_) rfl (by kernel_rfl) (by kernel_rfl) (by kernel_rfl) (fun _ _ _ h => h) (Or.inl ⟨by rfl, ?_⟩) (by assumption) ?_
              rotate_left
              · ((intro w hSw); (try dsimp only at hSw); go_simp; (try with_reducible rfl))
              (try simp only [Act.put, List.setIfInBounds_toArray, List.set_cons_zero, List.set_cons_succ])
              refine wpAnyH_take (i := 14) (oi := ⟨some 88, _, _, _, _, _⟩) (v := ?_) rfl (by kernel_rfl) (by kernel_rfl) (by kernel_rfl) (fun _ _ _ h => h) (Or.inl ⟨by rfl, ?_⟩) (by assumption) ?_
              rotate_left
              · ((intro w hSw); (try dsimp only at hSw); go_simp; (try with_reducible rfl))
              (try simp only [Act.put, List.setIfInBounds_toArray, List.set_cons_zero, List.set_cons_succ])
              refine wpAnyH_ready (rs := [15]) (by kernel_rfl) (by simp) ?_
              refine AllReadyH.cons (o := ⟨none, _, _, _, _, _⟩) rfl (fun K hK => ?_) AllReadyH.nil
              go_simp
              refine hK.out _ _ (by (try dsimp only); (exact sb_put (w := w) (wB := wq) hT9 hwg _)) (fun hHeld => ?_)
              clear hK K
              (try simp only [Act.put, List.setIfInBounds_toArray, List.set_cons_zero, List.set_cons_succ])
              refine wpAnyH_done (by kernel_rfl) ?_ _
              clear hHeld x0 x1 x2 fx lx
              go_wp2_with fail
              go_roundw
              case rel => exact ⟨j + 1, z1 ++ t8 ++ t9, by omega, by go_num, (HE5.out.fut (w' := w9)).set_ 1 _, (HE4.out.fut (w' := w9)).far (p := ⟨g, 1, none⟩) hne4 _, by rw [ByteArray.size_append, ByteArray.size_append]; omega, sb_put (sb_call (w5 := w9) HSB.out hzq) hwg _⟩
              case measure => simp [intOf]; omega
            · obtain ⟨hS1, hS2⟩ := hHeld
              go_simp
              (go_at_call 51; (with_reducible refine (VY.out _).mono ?_); rintro e w8 ⟨t8, rfl, ht8, hs8⟩; have hT8 := sb_call (w5 := w8) (g := g) HS0.out hzq; have hcat1 : ¬ 9223372036854775807 < z1.size + t8.size := (by omega); clear x0 x1 x2 fx lx; have hb_ := HE5.out.fut (w' := w8); obtain ⟨x0, x1, x2⟩ := At.z3 hb_.at0; have fx := hb_.free 1; have lx := hb_.lt; clear hb_)
              refine hK.out _ _ (by (try dsimp only); (first | exact hHeld | exact HS0.out | exact ⟨⟨HS0.out.1.1.drew, HS0.out.1.2⟩, HS0.out.2⟩ | exact hT9 | exact hT8)) (fun hHeld => ?_)
              clear hK K
              (try simp only [Act.put, List.setIfInBounds_toArray, List.set_cons_zero, List.set_cons_succ])
              refine wpAnyH_ready (rs := [1, 12]) (by kernel_rfl) (by simp) ?_
              refine AllReadyH.cons (o := ⟨some 75, _, _, _, _, _⟩) rfl (fun K hK => ?_) (AllReadyH.cons (o := ⟨some 86, _, _, _, _, _⟩) rfl (fun K hK => ?_) AllReadyH.nil)
              · go_simp
                refine hK.out _ _ (by (try dsimp only); (first | exact hHeld | exact HS0.out | exact ⟨⟨HS0.out.1.1.drew, HS0.out.1.2⟩, HS0.out.2⟩ | exact hT9 | exact hT8)) (fun hHeld => ?_)
                clear hK K
                (try simp only [Act.put, List.setIfInBounds_toArray, List.set_cons_zero, List.set_cons_succ])
                refine wpAnyH_take (i := 7) (oi := ⟨some 81, _, _, _, _, _⟩) (v := ?_) rfl (by kernel_rfl) (by kernel_rfl) (by kernel_rfl) (fun _ _ _ h => h) (Or.inl ⟨by rfl, ?_⟩) (by assumption) ?_
                rotate_left
                · ((intro w hSw); (try dsimp only at hSw); go_simp; (try with_reducible rfl))
                (try simp only [Act.put, List.setIfInBounds_toArray, List.set_cons_zero, List.set_cons_succ])
                refine wpAnyH_ready (rs := [12]) (by kernel_rfl) (by simp) ?_
                refine AllReadyH.cons (o := ⟨some 86, _, _, _, _, _⟩) rfl (fun K hK => ?_) AllReadyH.nil
                obtain ⟨hS1, hS2⟩ := hHeld
                go_simp
                (go_at_call 61; (with_reducible refine (PL.out _).mono ?_); rintro e w9 ⟨t9, rfl, ht9, hs9⟩; have hT9 := sb_call (w5 := w9) (g := g) hT8 (Nat.le_trans hzq hT8.1.2); have hcat2 : ¬ 9223372036854775807 < z1.size + t8.size + t9.size := (by omega); clear x0 x1 x2 fx lx; have hb_ := HE5.out.fut (w' := w9); obtain ⟨x0, x1, x2⟩ := At.z3 hb_.at0; have fx := hb_.free 1; have lx := hb_.lt; clear hb_)
                refine hK.out _ _ (by (try dsimp only); (first | exact hHeld | exact HS0.out | exact ⟨⟨HS0.out.1.1.drew, HS0.out.1.2⟩, HS0.out.2⟩ | exact hT9 | exact hT8)) (fun hHeld => ?_)
                clear hK K
                (try simp only [Act.put, List.setIfInBounds_toArray, List.set_cons_zero, List.set_cons_succ])
                refine wpAnyH_take (i := 13) (oi := ⟨some 87, _, _, _, _, _⟩) (v := ?_) rfl (by kernel_rfl) (by kernel_rfl) (by kernel_rfl) (fun _ _ _ h => h) (Or.inl ⟨by rfl, ?_⟩) (by assumption) ?_
                rotate_left
                · ((intro w hSw); (try dsimp only at hSw); go_simp; (try with_reducible rfl))
                (try simp only [Act.put, List.setIfInBounds_toArray, List.set_cons_zero, List.set_cons_succ])
                refine wpAnyH_take (i := 14) (oi := ⟨some 88, _, _, _, _, _⟩) (v := ?_) rfl (by kernel_rfl) (by kernel_rfl) (by kernel_rfl) (fun _ _ _ h => h) (Or.inl ⟨by rfl, ?_⟩) (by assumption) ?_
                rotate_left
                · ((intro w hSw); (try dsimp only at hSw); go_simp; (try with_reducible rfl))
                (try simp only [Act.put, List.setIfInBounds_toArray, List.set_cons_zero, List.set_cons_succ])
                refine wpAnyH_ready (rs := [15]) (by kernel_rfl) (by simp) ?_
                refine AllReadyH.cons (o := ⟨none, _, _, _, _, _⟩) rfl (fun K hK => ?_) AllReadyH.nil
                go_simp
                refine hK.out _ _ (by (try dsimp only); (exact sb_put (w := w) (wB := wq) hT9 hwg _)) (fun hHeld => ?_)
                clear hK K
                (try simp only [Act.put, List.setIfInBounds_toArray, List.set_cons_zero, List.set_cons_succ])
                refine wpAnyH_done (by kernel_rfl) ?_ _
                clear hHeld x0 x1 x2 fx lx
                go_wp2_with fail
                go_roundw
                case rel => exact ⟨j + 1, z1 ++ t8 ++ t9, by omega, by go_num, (HE5.out.fut (w' := w9)).set_ 1 _, (HE4.out.fut (w' := w9)).far (p := ⟨g, 1, none⟩) hne4 _, by rw [ByteArray.size_append, ByteArray.size_append]; omega, sb_put (sb_call (w5 := w9) HSB.out hzq) hwg _⟩
                case measure => simp [intOf]; omega
              · obtain ⟨hS1, hS2⟩ := hHeld
                go_simp
                (go_at_call 61; (with_reducible refine (PL.out _).mono ?_); rintro e w9 ⟨t9, rfl, ht9, hs9⟩; have hT9 := sb_call (w5 := w9) (g := g) hT8 (Nat.le_trans hzq hT8.1.2); have hcat2 : ¬ 9223372036854775807 < z1.size + t8.size + t9.size := (by omega); clear x0 x1 x2 fx lx; have hb_ := HE5.out.fut (w' := w9); obtain ⟨x0, x1, x2⟩ := At.z3 hb_.at0; have fx := hb_.free 1; have lx := hb_.lt; clear hb_)
                refine hK.out _ _ (by (try dsimp only); (first | exact hHeld | exact HS0.out | exact ⟨⟨HS0.out.1.1.drew, HS0.out.1.2⟩, HS0.out.2⟩ | exact hT9 | exact hT8)) (fun hHeld => ?_)
                clear hK K
                (try simp only [Act.put, List.setIfInBounds_toArray, List.set_cons_zero, List.set_cons_succ])
                refine wpAnyH_ready (rs := [1]) (by kernel_rfl) (by simp) ?_
                refine AllReadyH.cons (o := ⟨some 75, _, _, _, _, _⟩) rfl (fun K hK => ?_) AllReadyH.nil
                go_simp
                refine hK.out _ _ (by (try dsimp only); (first | exact hHeld | exact HS0.out | exact ⟨⟨HS0.out.1.1.drew, HS0.out.1.2⟩, HS0.out.2⟩ | exact hT9 | exact hT8)) (fun hHeld => ?_)
                clear hK K
                (try simp only [Act.put, List.setIfInBounds_toArray, List.set_cons_zero, List.set_cons_succ])
                refine wpAnyH_take (i := 7) (oi := ⟨some 81, _, _, _, _, _⟩) (v := ?_) rfl (by kernel_rfl) (by kernel_rfl) (by kernel_rfl) (fun _ _ _ h => h) (Or.inl ⟨by rfl, ?_⟩) (by assumption) ?_
                rotate_left
                · ((intro w hSw); (try dsimp only at hSw); go_simp; (try with_reducible rfl))
                (try simp only [Act.put, List.setIfInBounds_toArray, List.set_cons_zero, List.set_cons_succ])
                refine wpAnyH_take (i := 13) (oi := ⟨some 87, _, _, _, _, _⟩) (v := ?_) rfl (by kernel_rfl) (by kernel_rfl) (by kernel_rfl) (fun _ _ _ h => h) (Or.inl ⟨by rfl, ?_⟩) (by assumption) ?_
                rotate_left
                · ((intro w hSw); (try dsimp only at hSw); go_simp; (try with_reducible rfl))
                (try simp only [Act.put, List.setIfInBounds_toArray, List.set_cons_zero, List.set_cons_succ])
                refine wpAnyH_take (i := 14) (oi := ⟨some 88, _, _, _, _, _⟩) (v := ?_) rfl (by kernel_rfl) (by kernel_rfl) (by kernel_rfl) (fun _ _ _ h => h) (Or.inl ⟨by rfl, ?_⟩) (by assumption) ?_
                rotate_left
                · ((intro w hSw); (try dsimp only at hSw); go_simp; (try with_reducible rfl))
                (try simp only [Act.put, List.setIfInBounds_toArray, List.set_cons_zero, List.set_cons_succ])
                refine wpAnyH_ready (rs := [15]) (by kernel_rfl) (by simp) ?_
                refine AllReadyH.cons (o := ⟨none, _, _, _, _, _⟩) rfl (fun K hK => ?_) AllReadyH.nil
                go_simp
                refine hK.out _ _ (by (try dsimp only); (exact sb_put (w := w) (wB := wq) hT9 hwg _)) (fun hHeld => ?_)
                clear hK K
                (try simp only [Act.put, List.setIfInBounds_toArray, List.set_cons_zero, List.set_cons_succ])
                refine wpAnyH_done (by kernel_rfl) ?_ _
                clear hHeld x0 x1 x2 fx lx
                go_wp2_with fail
                go_roundw
                case rel => exact ⟨j + 1, z1 ++ t8 ++ t9, by omega, by go_num, (HE5.out.fut (w' := w9)).set_ 1 _, (HE4.out.fut (w' := w9)).far (p := ⟨g, 1, none⟩) hne4 _, by rw [ByteArray.size_append, ByteArray.size_append]; omega, sb_put (sb_call (w5 := w9) HSB.out hzq) hwg _⟩
                case measure => simp [intOf]; omega
          · obtain rfl : j = us.length := by omega
            have hz1b : z1.size ≤ 400000 := by omega
            have hus4 : us.length ≤ 4096 := by omega
            go_upto_region 24 with (go_at_call 63; (with_reducible refine (HBD.out _).mono ?_); rintro e w10 ⟨Y1, e1, us2, Y2, e2, ats, rfl, hul2, hat2, hats, hus2, hy1, hy2, hs10⟩; have HY1 := hide (hy1.sl (vals_fit us2).len); have HY2 := hide (hy2.sl (int_fit ats).len); have HATS := hide hats; have HUS2 := hide hus2; have HB1 := hide hy1.abv; have HB2 := hide hy2.abv; have HATL := hide hat2; clear hy1 hy2 hats hus2 hat2)
            have hgq : g < wq.heap.size := HE5.out.lt
            have hz10 := (fut wq w10).size
            have V10 := hide (fun w' => HV1.out us2.length (by omega) w')
            go_upto_region 25 with (go_at_call 51; (with_reducible refine (V10.out _).mono ?_); rintro e w11 ⟨t11, rfl, ht11, hs11⟩; have hb_ := HE5.out.fut (w' := w11); obtain ⟨x0, x1, x2⟩ := At.z3 hb_.at0; have fx := hb_.free 2; have lx := hb_.lt; clear hb_)
            clear x0 x1 x2 fx lx
            obtain ⟨YB, hYB⟩ : ∃ YB, YB = w11.setCell ⟨g, 2, none⟩ (.string t11) := ⟨_, rfl⟩
            have HB11 : Hid (Blk YB g 73 [.string z, .string z1, .string t11]) := by rw [hYB]; exact (HE5.out.fut (w' := w11)).set_ 2 _
            have HD11 : Hid (Blk YB g4 73 [.string ⟨#[]⟩, .string ⟨#[]⟩, .string ⟨#[]⟩]) := by rw [hYB]; exact (HE4.out.fut (w' := w11)).far (p := ⟨g, 2, none⟩) hne4 _
            have HSB11 : Hid (SBd w w10 g YB) := by rw [hYB]; exact sb_put (sb_call (w5 := w11) (sb_self (g := g) (fut w w10)) (fut w w10).size) hwg _
            rw [← hYB]
            clear hYB
            go_wp2_with fail
            go_loopw [17] (fun iv wr => ∃ (p : Nat) (z2 : ByteArray), p ≤ us2.length ∧ iv = .int .i64 p ∧ Blk wr g 73 [.string z, .string z1, .string z2] ∧ Blk wr g4 73 [.string ⟨#[]⟩, .string ⟨#[]⟩, .string ⟨#[]⟩] ∧ z2.size ≤ 10 + p * 74 ∧ SBd w w10 g wr) (fun iv _ => us2.length - (intOf iv).toNat)
            case atStart => exact ⟨0, t11, Nat.zero_le _, rfl, HB11.out, HD11.out, by omega, HSB11.out⟩
            case round =>
              obtain ⟨p, z2, hp, rfl, hb5, hb4, hz2, hsb⟩ := hrel
              have HF5 := hide hb5; have HF4 := hide hb4; have HSC := hide hsb
              clear hb5 hb4 HB11 HD11 HSB11
              obtain ⟨wp, rfl⟩ : ∃ x : World, x = wr := ⟨_, rfl⟩
              have Sp_ : Step w wp := ⟨hsb.1.1⟩
              have hzp := Sp_.size
              clear hsb
              by_cases hlt3 : p < us2.length
              · have hX2 := SlAt.sb HY1.out HSC.out (HB1.out.mono (m := g + 1) (by omega))
                obtain ⟨b2, o2, rfl, hb2, hc2⟩ := hX2.elem (w' := wp) inferInstance (k := p) (by simpa using hlt3)
                obtain ⟨u, hu⟩ : ∃ u, us2[p]? = some u := ⟨_, List.getElem?_eq_getElem hlt3⟩
                obtain ⟨u0, u1, u2, u3⟩ := At.l4 (hc2 p u.cells (by simp [hu]))
                have hbg2 : b2 ≠ g := by have := HB1.out b2 o2 rfl; omega
                have hjl3 : (p : Int) < (us2.length : Int) := by omega
                have hj30 : (0 : Int) ≤ (p : Int) := by omega
                have hub := HSZ.out u (HUS2.out u (List.mem_of_getElem? hu))
                have PL := fun w' => plainT_any u w' (by omega)
                unfold Txt at PL
                have PL := hide PL
                obtain ⟨x0, x1, x2⟩ := At.z3 HF5.out.at0
                have fx := HF5.out.free 2
                have lx := HF5.out.lt
                have HS0 := hide (sb_self (g := g) (fut w wp))
                clear hc2 hu hX2
                go_upto_region 28 with (fail)
                refine wp_region_held_drew (S := (fun w' => (Below w.heap.size w w' ∧ wp.heap.size ≤ w'.heap.size) ∧ (∀ b o, b < wp.heap.size → b ≠ g → w'.cell? ⟨b, o, none⟩ = wp.cell? ⟨b, o, none⟩))) (by kernel_rfl) (by (try dsimp only); (first | exact hHeld | exact HS0.out | exact ⟨⟨HS0.out.1.1.drew, HS0.out.1.2⟩, HS0.out.2⟩ | exact hT9)) (fun hHeld => ?_)
                refine wpAnyH_take (i := 0) (oi := ⟨some 104, _, _, _, _, _⟩) (v := ?_) rfl (by kernel_rfl) (by kernel_rfl) (by kernel_rfl) (fun _ _ _ h => h) (Or.inl ⟨by rfl, ?_⟩) (by assumption) ?_
                rotate_left
                · ((intro w hSw); (try dsimp only at hSw); go_simp; (try with_reducible rfl))
                (try simp only [Act.put, List.setIfInBounds_toArray, List.set_cons_zero, List.set_cons_succ])
                refine wpAnyH_take (i := 2) (oi := ⟨some 106, _, _, _, _, _⟩) (v := ?_) rfl (by kernel_rfl) (by kernel_rfl) (by kernel_rfl) (fun _ _ _ h => h) (Or.inl ⟨by rfl, ?_⟩) (by assumption) ?_
                rotate_left
                · ((intro w hSw); (try dsimp only at hSw); go_simp; (try with_reducible rfl))
                (try simp only [Act.put, List.setIfInBounds_toArray, List.set_cons_zero, List.set_cons_succ])
                refine wpAnyH_take (i := 3) (oi := ⟨some 107, _, _, _, _, _⟩) (v := ?_) rfl (by kernel_rfl) (by kernel_rfl) (by kernel_rfl) (fun _ _ _ h => h) (Or.inl ⟨by rfl, ?_⟩) (by assumption) ?_
                rotate_left
                · ((intro w hSw); (try dsimp only at hSw); go_simp; (try with_reducible rfl))
                (try simp only [Act.put, List.setIfInBounds_toArray, List.set_cons_zero, List.set_cons_succ])
                refine wpAnyH_take (i := 4) (oi := ⟨some 108, _, _, _, _, _⟩) (v := ?_) rfl (by kernel_rfl) (by kernel_rfl) (by kernel_rfl) (fun _ _ _ h => h) (Or.inl ⟨by rfl, ?_⟩) (by assumption) ?_
                rotate_left
                · ((intro w hSw); (try dsimp only at hSw); go_simp; (try with_reducible rfl))
                (try simp only [Act.put, List.setIfInBounds_toArray, List.set_cons_zero, List.set_cons_succ])
                refine wpAnyH_take (i := 5) (oi := ⟨some 109, _, _, _, _, _⟩) (v := ?_) rfl (by kernel_rfl) (by kernel_rfl) (by kernel_rfl) (fun _ _ _ h => h) (Or.inl ⟨by rfl, ?_⟩) (by assumption) ?_
                rotate_left
                · ((intro w hSw); (try dsimp only at hSw); go_simp; (try with_reducible rfl))
                (try simp only [Act.put, List.setIfInBounds_toArray, List.set_cons_zero, List.set_cons_succ])
                refine wpAnyH_ready (rs := [1, 6]) (by kernel_rfl) (by simp) ?_
                refine AllReadyH.cons (o := ⟨some 105, _, _, _, _, _⟩) rfl (fun K hK => ?_) (AllReadyH.cons (o := ⟨some 110, _, _, _, _, _⟩) rfl (fun K hK => ?_) AllReadyH.nil)
                · go_simp
                  refine hK.out _ _ (by (try dsimp only); (first | exact hHeld | exact HS0.out | exact ⟨⟨HS0.out.1.1.drew, HS0.out.1.2⟩, HS0.out.2⟩ | exact hT9)) (fun hHeld => ?_)
                  clear hK K
                  (try simp only [Act.put, List.setIfInBounds_toArray, List.set_cons_zero, List.set_cons_succ])
                  refine wpAnyH_ready (rs := [6]) (by kernel_rfl) (by simp) ?_
                  refine AllReadyH.cons (o := ⟨some 110, _, _, _, _, _⟩) rfl (fun K hK => ?_) AllReadyH.nil
                  obtain ⟨hS1, hS2⟩ := hHeld
                  go_simp
                  (go_at_call 61; (with_reducible refine (PL.out _).mono ?_); rintro e w12 ⟨t9, rfl, ht9, hs12⟩; have hT9 := sb_call (w5 := w12) (g := g) HS0.out hzp; have hcat2 : ¬ 9223372036854775807 < z2.size + t9.size := (by omega); clear x0 x1 x2 fx lx; have hb_ := HF5.out.fut (w' := w12); obtain ⟨x0, x1, x2⟩ := At.z3 hb_.at0; have fx := hb_.free 2; have lx := hb_.lt; clear hb_)
                  refine hK.out _ _ (by (try dsimp only); (first | exact hHeld | exact HS0.out | exact ⟨⟨HS0.out.1.1.drew, HS0.out.1.2⟩, HS0.out.2⟩ | exact hT9)) (fun hHeld => ?_)
                  clear hK K
                  (try simp only [Act.put, List.setIfInBounds_toArray, List.set_cons_zero, List.set_cons_succ])
                  refine wpAnyH_take (i := 7) (oi := ⟨some 111, _, _, _, _, _⟩) (v := ?_) rfl (by kernel_rfl) (by kernel_rfl) (by kernel_rfl) (fun _ _ _ h => h) (Or.inl ⟨by rfl, ?_⟩) (by assumption) ?_
                  rotate_left
                  · ((intro w hSw); (try dsimp only at hSw); go_simp; (try with_reducible rfl))
                  (try simp only [Act.put, List.setIfInBounds_toArray, List.set_cons_zero, List.set_cons_succ])
                  refine wpAnyH_take (i := 8) (oi := ⟨some 112, _, _, _, _, _⟩) (v := ?_) rfl (by kernel_rfl) (by kernel_rfl) (by kernel_rfl) (fun _ _ _ h => h) (Or.inl ⟨by rfl, ?_⟩) (by assumption) ?_
                  rotate_left
                  · ((intro w hSw); (try dsimp only at hSw); go_simp; (try with_reducible rfl))
                  (try simp only [Act.put, List.setIfInBounds_toArray, List.set_cons_zero, List.set_cons_succ])
                  refine wpAnyH_ready (rs := [9]) (by kernel_rfl) (by simp) ?_
                  refine AllReadyH.cons (o := ⟨none, _, _, _, _, _⟩) rfl (fun K hK => ?_) AllReadyH.nil
                  go_simp
                  refine hK.out _ _ (by (try dsimp only); (exact sb_put (w := w) (wB := wp) hT9 hwg _)) (fun hHeld => ?_)
                  clear hK K
                  (try simp only [Act.put, List.setIfInBounds_toArray, List.set_cons_zero, List.set_cons_succ])
                  refine wpAnyH_done (by kernel_rfl) ?_ _
                  clear hHeld x0 x1 x2 fx lx
                  go_wp2_with fail
                  go_roundw
                  case rel => exact ⟨p + 1, z2 ++ t9, by omega, by go_num, (HF5.out.fut (w' := w12)).set_ 2 _, (HF4.out.fut (w' := w12)).far (p := ⟨g, 2, none⟩) hne4 _, by rw [ByteArray.size_append]; omega, sb_put (sb_call (w5 := w12) HSC.out hzp) hwg _⟩
                  case measure => simp [intOf]; omega
                · obtain ⟨hS1, hS2⟩ := hHeld
                  go_simp
                  (go_at_call 61; (with_reducible refine (PL.out _).mono ?_); rintro e w12 ⟨t9, rfl, ht9, hs12⟩; have hT9 := sb_call (w5 := w12) (g := g) HS0.out hzp; have hcat2 : ¬ 9223372036854775807 < z2.size + t9.size := (by omega); clear x0 x1 x2 fx lx; have hb_ := HF5.out.fut (w' := w12); obtain ⟨x0, x1, x2⟩ := At.z3 hb_.at0; have fx := hb_.free 2; have lx := hb_.lt; clear hb_)
                  refine hK.out _ _ (by (try dsimp only); (first | exact hHeld | exact HS0.out | exact ⟨⟨HS0.out.1.1.drew, HS0.out.1.2⟩, HS0.out.2⟩ | exact hT9)) (fun hHeld => ?_)
                  clear hK K
                  (try simp only [Act.put, List.setIfInBounds_toArray, List.set_cons_zero, List.set_cons_succ])
                  refine wpAnyH_ready (rs := [1]) (by kernel_rfl) (by simp) ?_
                  refine AllReadyH.cons (o := ⟨some 105, _, _, _, _, _⟩) rfl (fun K hK => ?_) AllReadyH.nil
                  go_simp
                  refine hK.out _ _ (by (try dsimp only); (first | exact hHeld | exact HS0.out | exact ⟨⟨HS0.out.1.1.drew, HS0.out.1.2⟩, HS0.out.2⟩ | exact hT9)) (fun hHeld => ?_)
                  clear hK K
                  (try simp only [Act.put, List.setIfInBounds_toArray, List.set_cons_zero, List.set_cons_succ])
                  refine wpAnyH_take (i := 7) (oi := ⟨some 111, _, _, _, _, _⟩) (v := ?_) rfl (by kernel_rfl) (by kernel_rfl) (by kernel_rfl) (fun _ _ _ h => h) (Or.inl ⟨by rfl, ?_⟩) (by assumption) ?_
                  rotate_left
                  · ((intro w hSw); (try dsimp only at hSw); go_simp; (try with_reducible rfl))
                  (try simp only [Act.put, List.setIfInBounds_toArray, List.set_cons_zero, List.set_cons_succ])
                  refine wpAnyH_take (i := 8) (oi := ⟨some 112, _, _, _, _, _⟩) (v := ?_) rfl (by kernel_rfl) (by kernel_rfl) (by kernel_rfl) (fun _ _ _ h => h) (Or.inl ⟨by rfl, ?_⟩) (by assumption) ?_
                  rotate_left
                  · ((intro w hSw); (try dsimp only at hSw); go_simp; (try with_reducible rfl))
                  (try simp only [Act.put, List.setIfInBounds_toArray, List.set_cons_zero, List.set_cons_succ])
                  refine wpAnyH_ready (rs := [9]) (by kernel_rfl) (by simp) ?_
                  refine AllReadyH.cons (o := ⟨none, _, _, _, _, _⟩) rfl (fun K hK => ?_) AllReadyH.nil
                  go_simp
                  refine hK.out _ _ (by (try dsimp only); (exact sb_put (w := w) (wB := wp) hT9 hwg _)) (fun hHeld => ?_)
                  clear hK K
                  (try simp only [Act.put, List.setIfInBounds_toArray, List.set_cons_zero, List.set_cons_succ])
                  refine wpAnyH_done (by kernel_rfl) ?_ _
                  clear hHeld x0 x1 x2 fx lx
                  go_wp2_with fail
                  go_roundw
                  case rel => exact ⟨p + 1, z2 ++ t9, by omega, by go_num, (HF5.out.fut (w' := w12)).set_ 2 _, (HF4.out.fut (w' := w12)).far (p := ⟨g, 2, none⟩) hne4 _, by rw [ByteArray.size_append]; omega, sb_put (sb_call (w5 := w12) HSC.out hzp) hwg _⟩
                  case measure => simp [intOf]; omega
              · obtain rfl : p = us2.length := by omega
                have hX := SlAt.sb HY2.out HSC.out (HB2.out.mono (m := g + 1) (by omega))
                have HXX := hide hX
                clear hX
                have hus24 : us2.length ≤ 4096 := by omega
                have WD := hide (fun w' => width_any ((us2.length : Int) - 1) w' (by omega))
                have PK := hide (fun (kn : Nat) (h : kn ≤ 13) w' [Fut wp w'] => pack_any (w0 := wp) ats Y2 e2 kn w' HXX.out (by rw [HATL.out]; exact hl) h (fun x hx => by have := HATS.out x hx; omega))
                go_upto_region 30 with (first
                  | (go_at_call 64; (with_reducible refine (WD.out _).mono ?_); rintro e w13 ⟨kk, rfl, hk0, hk13, rfl⟩; obtain ⟨kn, rfl⟩ : ∃ kn : Nat, kk = (kn : Int) := ⟨kk.toNat, by omega⟩; have hkn : kn ≤ 13 := (by omega); have PK2 := hide (fun w' [Fut wp w'] => PK.out kn hkn w'))
                  | (go_at_call 49; (with_reducible refine (PK2.out _).mono ?_); rintro e w14 ⟨s2, code2, rfl, hs2, hs14⟩; have hb_ := HF5.out.fut (w' := w14); obtain ⟨x0, x1, x2⟩ := At.z3 hb_.at0; have fx := hb_.free; have lx := hb_.lt; clear hb_; have hb_ := HF4.out.fut (w' := w14); obtain ⟨y0, y1, y2⟩ := At.z3 hb_.at0; have fy := hb_.free; have ly := hb_.lt; clear hb_; have hcat3 : ¬ 9223372036854775807 < z2.size + s2.size := (by omega)))
                go_wp2_with fail
                clear x0 x1 x2 fx lx y0 y1 y2 fy ly
                have HR := hide (((((HF4.out.fut (w' := w14)).far (p := ⟨g, 2, none⟩) hne4 (.string (z2 ++ s2))).set_ 0 (.string z)).set_ 1 (.string z1)).set_ 2 (.string (z2 ++ s2)))
                obtain ⟨t0, t1, t2⟩ := At.z3 HR.out.at0
                refine bodyPost_ret (v := .agg #[.string z, .string z1, .string (z2 ++ s2)]) (by simp [results, Tryd.results48, go_sem, t0, t1, t2]) rfl ?_
                exact ⟨z, z1, z2 ++ s2, rfl, by omega, by omega, by rw [ByteArray.size_append]; omega, ⟨((((fut w w14).setCell (p := ⟨g, 2, none⟩) hwg _).setCell (p := ⟨g4, 0, none⟩) hwg4 _).setCell (p := ⟨g4, 1, none⟩) hwg4 _).setCell (p := ⟨g4, 2, none⟩) hwg4 _⟩⟩
  · have hkb : (k == 2) = false := beq_eq_false_iff_ne.2 hk
    go_wp2_with fail
    go_loopw [11] (fun iv wr => ∃ (j : Nat) (z : ByteArray), j ≤ vs.length ∧ iv = .int .i64 j ∧ Blk wr g 73 [.string z, .string ⟨#[]⟩, .string ⟨#[]⟩] ∧ Blk wr g4 73 [.string ⟨#[]⟩, .string ⟨#[]⟩, .string ⟨#[]⟩] ∧ z.size ≤ j * 74 ∧ Step w wr) (fun iv _ => vs.length - (intOf iv).toNat)
    case atStart => exact ⟨0, ⟨#[]⟩, Nat.zero_le _, rfl, HG5.out, HG4.out, Nat.le_refl _, SW⟩
    case round =>
      obtain ⟨j, z, hj, rfl, hb5, hb4, hz, hst⟩ := hrel
      have HB5 := hide hb5; have HB4 := hide hb4
      clear hb5 hb4 HG5 HG4
      obtain ⟨wo, rfl⟩ : ∃ x : World, x = wr := ⟨_, rfl⟩
      have hzo := hst.size
      by_cases hlt : j < vs.length
      · obtain ⟨b, off, rfl, hb, hc⟩ := hv.elem (w' := wo) inferInstance (k := j) (by simpa using hlt)
        obtain ⟨v, hvk⟩ : ∃ v, vs[j]? = some v := ⟨_, List.getElem?_eq_getElem hlt⟩
        obtain ⟨v0, v1, v2, v3⟩ := At.l4 (hc j v.cells (by simp [hvk]))
        have lb : b < wo.heap.size := by omega
        have hbg : b ≠ g := by omega
        have hjl : (j : Int) < (vs.length : Int) := by omega
        have hj0 : (0 : Int) ≤ (j : Int) := by omega
        have hvm := HVS.out v (List.mem_of_getElem? hvk)
        have PL := fun w' => plainT_any v w' (by omega)
        unfold Txt at PL
        have PL := hide PL
        obtain ⟨x0, x1, x2⟩ := At.z3 HB5.out.at0
        have fx := HB5.out.free 0
        have lx := HB5.out.lt
        have hS0 : (Below w.heap.size w wo ∧ wo.heap.size ≤ wo.heap.size) ∧ ∀ b o, b < wo.heap.size → b ≠ g → wo.cell? ⟨b, o, none⟩ = wo.cell? ⟨b, o, none⟩ := ⟨⟨hst.below, Nat.le_refl _⟩, fun _ _ _ _ => rfl⟩
        have HS0 := hide hS0
        clear hc hvk hS0
        go_upto_region 16 with (fail)
        refine wp_region_held_drew (S := (fun w' => (Below w.heap.size w w' ∧ wo.heap.size ≤ w'.heap.size) ∧ (∀ b o, b < wo.heap.size → b ≠ g → w'.cell? ⟨b, o, none⟩ = wo.cell? ⟨b, o, none⟩))) (by kernel_rfl) (by (try dsimp only); (first | exact hHeld | exact HS0.out | exact ⟨⟨HS0.out.1.1.drew, HS0.out.1.2⟩, HS0.out.2⟩ | exact hT5)) (fun hHeld => ?_)
        refine wpAnyH_take (i := 0) (oi := ⟨some 50, _, _, _, _, _⟩) (v := ?_) rfl (by kernel_rfl) (by kernel_rfl) (by kernel_rfl) (fun _ _ _ h => h) (Or.inl ⟨by rfl, ?_⟩) (by assumption) ?_
        rotate_left
        · ((intro w hSw); (try dsimp only at hSw); go_simp; (try with_reducible rfl))
        (try simp only [Act.put, List.setIfInBounds_toArray, List.set_cons_zero, List.set_cons_succ])
        refine wpAnyH_take (i := 2) (oi := ⟨some 52, _, _, _, _, _⟩) (v := ?_) rfl (by kernel_rfl) (by kernel_rfl) (by kernel_rfl) (fun _ _ _ h => h) (Or.inl ⟨by rfl, ?_⟩) (by assumption) ?_
        rotate_left
        · ((intro w hSw); (try dsimp only at hSw); go_simp; (try with_reducible rfl))
        (try simp only [Act.put, List.setIfInBounds_toArray, List.set_cons_zero, List.set_cons_succ])
        refine wpAnyH_take (i := 3) (oi := ⟨some 53, _, _, _, _, _⟩) (v := ?_) rfl (by kernel_rfl) (by kernel_rfl) (by kernel_rfl) (fun _ _ _ h => h) (Or.inl ⟨by rfl, ?_⟩) (by assumption) ?_
        rotate_left
        · ((intro w hSw); (try dsimp only at hSw); go_simp; (try with_reducible rfl))
        (try simp only [Act.put, List.setIfInBounds_toArray, List.set_cons_zero, List.set_cons_succ])
        refine wpAnyH_take (i := 4) (oi := ⟨some 54, _, _, _, _, _⟩) (v := ?_) rfl (by kernel_rfl) (by kernel_rfl) (by kernel_rfl) (fun _ _ _ h => h) (Or.inl ⟨by rfl, ?_⟩) (by assumption) ?_
        rotate_left
        · ((intro w hSw); (try dsimp only at hSw); go_simp; (try with_reducible rfl))
        (try simp only [Act.put, List.setIfInBounds_toArray, List.set_cons_zero, List.set_cons_succ])
        refine wpAnyH_take (i := 5) (oi := ⟨some 55, _, _, _, _, _⟩) (v := ?_) rfl (by kernel_rfl) (by kernel_rfl) (by kernel_rfl) (fun _ _ _ h => h) (Or.inl ⟨by rfl, ?_⟩) (by assumption) ?_
        rotate_left
        · ((intro w hSw); (try dsimp only at hSw); go_simp; (try with_reducible rfl))
        (try simp only [Act.put, List.setIfInBounds_toArray, List.set_cons_zero, List.set_cons_succ])
        refine wpAnyH_ready (rs := [1, 6]) (by kernel_rfl) (by simp) ?_
        refine AllReadyH.cons (o := ⟨some 51, _, _, _, _, _⟩) rfl (fun K hK => ?_) (AllReadyH.cons (o := ⟨some 56, _, _, _, _, _⟩) rfl (fun K hK => ?_) AllReadyH.nil)
        · go_simp
          refine hK.out _ _ (by (try dsimp only); (first | exact hHeld | exact HS0.out | exact ⟨⟨HS0.out.1.1.drew, HS0.out.1.2⟩, HS0.out.2⟩ | exact hT5)) (fun hHeld => ?_)
          clear hK K
          (try simp only [Act.put, List.setIfInBounds_toArray, List.set_cons_zero, List.set_cons_succ])
          refine wpAnyH_ready (rs := [6]) (by kernel_rfl) (by simp) ?_
          refine AllReadyH.cons (o := ⟨some 56, _, _, _, _, _⟩) rfl (fun K hK => ?_) AllReadyH.nil
          obtain ⟨hS1, hS2⟩ := hHeld
          go_simp
          (go_at_call 61; (with_reducible refine (PL.out _).mono ?_); rintro e w5 ⟨t, rfl, ht, hs5⟩; have hT5 := sb_call (w5 := w5) (g := g) HS0.out hzo; have hcat : ¬ 9223372036854775807 < z.size + t.size := (by omega); clear x0 x1 x2 fx lx; have hb_ := HB5.out.fut (w' := w5); obtain ⟨x0, x1, x2⟩ := At.z3 hb_.at0; have fx := hb_.free 0; have lx := hb_.lt; clear hb_)
          refine hK.out _ _ (by (try dsimp only); (first | exact hHeld | exact HS0.out | exact ⟨⟨HS0.out.1.1.drew, HS0.out.1.2⟩, HS0.out.2⟩ | exact hT5)) (fun hHeld => ?_)
          clear hK K
          (try simp only [Act.put, List.setIfInBounds_toArray, List.set_cons_zero, List.set_cons_succ])
          refine wpAnyH_take (i := 7) (oi := ⟨some 57, _, _, _, _, _⟩) (v := ?_) rfl (by kernel_rfl) (by kernel_rfl) (by kernel_rfl) (fun _ _ _ h => h) (Or.inl ⟨by rfl, ?_⟩) (by assumption) ?_
          rotate_left
          · ((intro w hSw); (try dsimp only at hSw); go_simp; (try with_reducible rfl))
          (try simp only [Act.put, List.setIfInBounds_toArray, List.set_cons_zero, List.set_cons_succ])
          refine wpAnyH_take (i := 8) (oi := ⟨some 58, _, _, _, _, _⟩) (v := ?_) rfl (by kernel_rfl) (by kernel_rfl) (by kernel_rfl) (fun _ _ _ h => h) (Or.inl ⟨by rfl, ?_⟩) (by assumption) ?_
          rotate_left
          · ((intro w hSw); (try dsimp only at hSw); go_simp; (try with_reducible rfl))
          (try simp only [Act.put, List.setIfInBounds_toArray, List.set_cons_zero, List.set_cons_succ])
          refine wpAnyH_ready (rs := [9]) (by kernel_rfl) (by simp) ?_
          refine AllReadyH.cons (o := ⟨none, _, _, _, _, _⟩) rfl (fun K hK => ?_) AllReadyH.nil
          go_simp
          refine hK.out _ _ (by (try dsimp only); (exact sb_put (w := w) (wB := wo) hT5 hwg _)) (fun hHeld => ?_)
          clear hK K
          (try simp only [Act.put, List.setIfInBounds_toArray, List.set_cons_zero, List.set_cons_succ])
          refine wpAnyH_done (by kernel_rfl) ?_ _
          clear hHeld x0 x1 x2 fx lx
          go_wp2_with fail
          go_roundw
          case rel => exact ⟨j + 1, z ++ t, by omega, by go_num, (HB5.out.fut (w' := w5)).set_ 0 _, (HB4.out.fut (w' := w5)).far (p := ⟨g, 0, none⟩) hne4 _, by rw [ByteArray.size_append]; omega, ⟨Below.setCell (p := ⟨g, 0, none⟩) (fut w w5) hwg _⟩⟩
          case measure => simp [intOf]; omega
        · obtain ⟨hS1, hS2⟩ := hHeld
          go_simp
          (go_at_call 61; (with_reducible refine (PL.out _).mono ?_); rintro e w5 ⟨t, rfl, ht, hs5⟩; have hT5 := sb_call (w5 := w5) (g := g) HS0.out hzo; have hcat : ¬ 9223372036854775807 < z.size + t.size := (by omega); clear x0 x1 x2 fx lx; have hb_ := HB5.out.fut (w' := w5); obtain ⟨x0, x1, x2⟩ := At.z3 hb_.at0; have fx := hb_.free 0; have lx := hb_.lt; clear hb_)
          refine hK.out _ _ (by (try dsimp only); (first | exact hHeld | exact HS0.out | exact ⟨⟨HS0.out.1.1.drew, HS0.out.1.2⟩, HS0.out.2⟩ | exact hT5)) (fun hHeld => ?_)
          clear hK K
          (try simp only [Act.put, List.setIfInBounds_toArray, List.set_cons_zero, List.set_cons_succ])
          refine wpAnyH_ready (rs := [1]) (by kernel_rfl) (by simp) ?_
          refine AllReadyH.cons (o := ⟨some 51, _, _, _, _, _⟩) rfl (fun K hK => ?_) AllReadyH.nil
          go_simp
          refine hK.out _ _ (by (try dsimp only); (first | exact hHeld | exact HS0.out | exact ⟨⟨HS0.out.1.1.drew, HS0.out.1.2⟩, HS0.out.2⟩ | exact hT5)) (fun hHeld => ?_)
          clear hK K
          (try simp only [Act.put, List.setIfInBounds_toArray, List.set_cons_zero, List.set_cons_succ])
          refine wpAnyH_take (i := 7) (oi := ⟨some 57, _, _, _, _, _⟩) (v := ?_) rfl (by kernel_rfl) (by kernel_rfl) (by kernel_rfl) (fun _ _ _ h => h) (Or.inl ⟨by rfl, ?_⟩) (by assumption) ?_
          rotate_left
          · ((intro w hSw); (try dsimp only at hSw); go_simp; (try with_reducible rfl))
          (try simp only [Act.put, List.setIfInBounds_toArray, List.set_cons_zero, List.set_cons_succ])
          refine wpAnyH_take (i := 8) (oi := ⟨some 58, _, _, _, _, _⟩) (v := ?_) rfl (by kernel_rfl) (by kernel_rfl) (by kernel_rfl) (fun _ _ _ h => h) (Or.inl ⟨by rfl, ?_⟩) (by assumption) ?_
          rotate_left
          · ((intro w hSw); (try dsimp only at hSw); go_simp; (try with_reducible rfl))
          (try simp only [Act.put, List.setIfInBounds_toArray, List.set_cons_zero, List.set_cons_succ])
          refine wpAnyH_ready (rs := [9]) (by kernel_rfl) (by simp) ?_
          refine AllReadyH.cons (o := ⟨none, _, _, _, _, _⟩) rfl (fun K hK => ?_) AllReadyH.nil
          go_simp
          refine hK.out _ _ (by (try dsimp only); (exact sb_put (w := w) (wB := wo) hT5 hwg _)) (fun hHeld => ?_)
          clear hK K
          (try simp only [Act.put, List.setIfInBounds_toArray, List.set_cons_zero, List.set_cons_succ])
          refine wpAnyH_done (by kernel_rfl) ?_ _
          clear hHeld x0 x1 x2 fx lx
          go_wp2_with fail
          go_roundw
          case rel => exact ⟨j + 1, z ++ t, by omega, by go_num, (HB5.out.fut (w' := w5)).set_ 0 _, (HB4.out.fut (w' := w5)).far (p := ⟨g, 0, none⟩) hne4 _, by rw [ByteArray.size_append]; omega, ⟨Below.setCell (p := ⟨g, 0, none⟩) (fut w w5) hwg _⟩⟩
          case measure => simp [intOf]; omega
      · obtain rfl : j = vs.length := by omega
        have hz0 : z.size ≤ 303104 := by omega
        have HB5_ := HB5; have HB4_ := HB4
        have HCT := hide (fun w' [Fut w0 w'] => cut_any vs Av cv w' hv hl (fun v hv_ => Nat.le_trans (HVS.out v hv_) (by decide)))
        have HBD := hide (fun w' [Fut w0 w'] => build_any vs Av cv w' hv hl (fun v hv_ => Nat.le_trans (HVS.out v hv_) (by decide)))
        have HV1 := fun (n : Nat) (h : n ≤ 4096) (w' : World) => varint_any (n : Int) w' (by omega) (by omega)
        unfold Txt at HV1
        have HV1 := hide HV1
        have HSZ : Hid (∀ u : Val, (∃ v ∈ vs, u = clean v) → u.s.size ≤ 64) := fun u ⟨v, hv_, e⟩ => by
          have h1 := HVS.out v hv_
          rcases clean_s_le v with h | h <;> rw [e] <;> omega
        go_upto_region 18 with (go_at_call 62; (with_reducible refine (HCT.out _).mono ?_); rintro e w6 ⟨X1, d1, ms, X2, d2, us, rfl, hml, hul, hms, hus, hx1, hx2, hs6⟩; have HX1 := hide (hx1.sl (int_fit ms).len); have HX2 := hide (hx2.sl (vals_fit us).len); have HML := hide hml; have HMS := hide hms; have HUS := hide hus; have HA1 := hide hx1.abv; have HA2 := hide hx2.abv; clear hx1 hx2 hml hms hus)
        have hz6 := (fut wo w6).size
        have HC6 := hide (HB5_.out.fut (w' := w6)); have HD6 := hide (HB4_.out.fut (w' := w6))
        have V6 := hide (fun w' => HV1.out us.length (by omega) w')
        go_upto_region 19 with (go_at_call 51; (with_reducible refine (V6.out _).mono ?_); rintro e w7 ⟨t7, rfl, ht7, hs7⟩; have hb_ := HC6.out.fut (w' := w7); obtain ⟨x0, x1, x2⟩ := At.z3 hb_.at0; have fx := hb_.free 1; have lx := hb_.lt; clear hb_)
        clear x0 x1 x2 fx lx
        have hgw : g < wo.heap.size := HB5_.out.lt
        obtain ⟨Y7, hY7⟩ : ∃ Y7, Y7 = w7.setCell ⟨g, 1, none⟩ (.string t7) := ⟨_, rfl⟩
        have HB7 : Hid (Blk Y7 g 73 [.string z, .string t7, .string ⟨#[]⟩]) := by rw [hY7]; exact (HC6.out.fut (w' := w7)).set_ 1 _
        have HD7 : Hid (Blk Y7 g4 73 [.string ⟨#[]⟩, .string ⟨#[]⟩, .string ⟨#[]⟩]) := by rw [hY7]; exact (HD6.out.fut (w' := w7)).far (p := ⟨g, 1, none⟩) hne4 _
        have HSB7 : Hid (SBd w w6 g Y7) := by rw [hY7]; exact sb_put (sb_call (w5 := w7) (sb_self (g := g) (fut w w6)) (fut w w6).size) hwg _
        rw [← hY7]
        clear hY7
        go_wp2_with fail
        go_loopw [14] (fun iv wr => ∃ (j : Nat) (z1 : ByteArray), j ≤ us.length ∧ iv = .int .i64 j ∧ Blk wr g 73 [.string z, .string z1, .string ⟨#[]⟩] ∧ Blk wr g4 73 [.string ⟨#[]⟩, .string ⟨#[]⟩, .string ⟨#[]⟩] ∧ z1.size ≤ 10 + j * 84 ∧ SBd w w6 g wr) (fun iv _ => us.length - (intOf iv).toNat)
        case atStart => exact ⟨0, t7, Nat.zero_le _, rfl, HB7.out, HD7.out, by omega, HSB7.out⟩
        case round =>
          obtain ⟨j, z1, hj, rfl, hb5, hb4, hz1, hsb⟩ := hrel
          have HE5 := hide hb5; have HE4 := hide hb4; have HSB := hide hsb
          clear hb5 hb4 HB7 HD7 HSB7
          obtain ⟨wq, rfl⟩ : ∃ x : World, x = wr := ⟨_, rfl⟩
          have Sq : Step w wq := ⟨hsb.1.1⟩
          have hzq := Sq.size
          clear hsb
          by_cases hlt2 : j < us.length
          · have hX1 := SlAt.sb HX1.out HSB.out (HA1.out.mono (m := g + 1) (by omega))
            have hX2 := SlAt.sb HX2.out HSB.out (HA2.out.mono (m := g + 1) (by omega))
            obtain ⟨b1, o1, rfl, hb1, hc1⟩ := hX1.elem (w' := wq) inferInstance (k := j) (by rw [intCells_len, HML.out]; exact hlt2)
            obtain ⟨b2, o2, rfl, hb2, hc2⟩ := hX2.elem (w' := wq) inferInstance (k := j) (by simpa using hlt2)
            obtain ⟨y, hy⟩ : ∃ y, ms[j]? = some y := ⟨_, List.getElem?_eq_getElem (by rw [HML.out]; exact hlt2)⟩
            obtain ⟨u, hu⟩ : ∃ u, us[j]? = some u := ⟨_, List.getElem?_eq_getElem hlt2⟩
            have y0 := At.l1 (hc1 j [.int .i64 y] (by simp [intCells, hy]))
            simp only [Nat.mul_one] at y0
            obtain ⟨u0, u1, u2, u3⟩ := At.l4 (hc2 j u.cells (by simp [hu]))
            have hbg1 : b1 ≠ g := by have := HA1.out b1 o1 rfl; omega
            have hbg2 : b2 ≠ g := by have := HA2.out b2 o2 rfl; omega
            have hjl2 : (j : Int) < (us.length : Int) := by omega
            have hj20 : (0 : Int) ≤ (j : Int) := by omega
            have hyb := HMS.out y (List.mem_of_getElem? hy)
            have hub := HSZ.out u (HUS.out u (List.mem_of_getElem? hu))
            have VY := fun w' => varint_any y w' (by omega) (by omega)
            unfold Txt at VY
            have VY := hide VY
            have PL := fun w' => plainT_any u w' (by omega)
            unfold Txt at PL
            have PL := hide PL
            obtain ⟨x0, x1, x2⟩ := At.z3 HE5.out.at0
            have fx := HE5.out.free 1
            have lx := HE5.out.lt
            have HS0 := hide (sb_self (g := g) (fut w wq))
            clear hc1 hc2 hy hu hX1 hX2
            go_upto_region 22 with (fail)
            refine wp_region_held_drew (S := (fun w' => (Below w.heap.size w w' ∧ wq.heap.size ≤ w'.heap.size) ∧ (∀ b o, b < wq.heap.size → b ≠ g → w'.cell? ⟨b, o, none⟩ = wq.cell? ⟨b, o, none⟩))) (by kernel_rfl) (by (try dsimp only); (first | exact hHeld | exact HS0.out | exact ⟨⟨HS0.out.1.1.drew, HS0.out.1.2⟩, HS0.out.2⟩ | exact hT9 | exact hT8)) (fun hHeld => ?_)
            refine wpAnyH_take (i := 0) (oi := ⟨some 74, _, _, _, _, _⟩) (v := ?_) rfl (by kernel_rfl) (by kernel_rfl) (by kernel_rfl) (fun _ _ _ h => h) (Or.inl ⟨by rfl, ?_⟩) (by assumption) ?_
            rotate_left
            · ((intro w hSw); (try dsimp only at hSw); go_simp; (try with_reducible rfl))
            (try simp only [Act.put, List.setIfInBounds_toArray, List.set_cons_zero, List.set_cons_succ])
            refine wpAnyH_take (i := 2) (oi := ⟨some 76, _, _, _, _, _⟩) (v := ?_) rfl (by kernel_rfl) (by kernel_rfl) (by kernel_rfl) (fun _ _ _ h => h) (Or.inl ⟨by rfl, ?_⟩) (by assumption) ?_
            rotate_left
            · ((intro w hSw); (try dsimp only at hSw); go_simp; (try with_reducible rfl))
            (try simp only [Act.put, List.setIfInBounds_toArray, List.set_cons_zero, List.set_cons_succ])
            refine wpAnyH_take (i := 3) (oi := ⟨some 77, _, _, _, _, _⟩) (v := ?_) rfl (by kernel_rfl) (by kernel_rfl) (by kernel_rfl) (fun _ _ _ h => h) (Or.inl ⟨by rfl, ?_⟩) (by assumption) ?_
            rotate_left
            · ((intro w hSw); (try dsimp only at hSw); go_simp; (try with_reducible rfl))
            (try simp only [Act.put, List.setIfInBounds_toArray, List.set_cons_zero, List.set_cons_succ])
            refine wpAnyH_take (i := 8) (oi := ⟨some 82, _, _, _, _, _⟩) (v := ?_) rfl (by kernel_rfl) (by kernel_rfl) (by kernel_rfl) (fun _ _ _ h => h) (Or.inl ⟨by rfl, ?_⟩) (by assumption) ?_
            rotate_left
            · ((intro w hSw); (try dsimp only at hSw); go_simp; (try with_reducible rfl))
            (try simp only [Act.put, List.setIfInBounds_toArray, List.set_cons_zero, List.set_cons_succ])
            refine wpAnyH_take (i := 9) (oi := ⟨some 83, _, _, _, _, _⟩) (v := ?_) rfl (by kernel_rfl) (by kernel_rfl) (by kernel_rfl) (fun _ _ _ h => h) (Or.inl ⟨by rfl, ?_⟩) (by assumption) ?_
            rotate_left
            · ((intro w hSw); (try dsimp only at hSw); go_simp; (try with_reducible rfl))
            (try simp only [Act.put, List.setIfInBounds_toArray, List.set_cons_zero, List.set_cons_succ])
            refine wpAnyH_take (i := 4) (oi := ⟨some 78, _, _, _, _, _⟩) (v := ?_) rfl (by kernel_rfl) (by kernel_rfl) (by kernel_rfl) (fun _ _ _ h => h) (Or.inl ⟨by rfl, ?_⟩) (by assumption) ?_
            rotate_left
            · ((intro w hSw); (try dsimp only at hSw); go_simp; (try with_reducible rfl))
            (try simp only [Act.put, List.setIfInBounds_toArray, List.set_cons_zero, List.set_cons_succ])
            refine wpAnyH_take (i := 10) (oi := ⟨some 84, _, _, _, _, _⟩) (v := ?_) rfl (by kernel_rfl) (by kernel_rfl) (by kernel_rfl) (fun _ _ _ h => h) (Or.inl ⟨by rfl, ?_⟩) (by assumption) ?_
            rotate_left
            · ((intro w hSw); (try dsimp only at hSw); go_simp; (try with_reducible rfl))
            (try simp only [Act.put, List.setIfInBounds_toArray, List.set_cons_zero, List.set_cons_succ])
            refine wpAnyH_take (i := 5) (oi := ⟨some 79, _, _, _, _, _⟩) (v := ?_) rfl (by kernel_rfl) (by kernel_rfl) (by kernel_rfl) (fun _ _ _ h => h) (Or.inl ⟨by rfl, ?_⟩) (by assumption) ?_
            rotate_left
            · ((intro w hSw); (try dsimp only at hSw); go_simp; (try with_reducible rfl))
            (try simp only [Act.put, List.setIfInBounds_toArray, List.set_cons_zero, List.set_cons_succ])
            refine wpAnyH_take (i := 11) (oi := ⟨some 85, _, _, _, _, _⟩) (v := ?_) rfl (by kernel_rfl) (by kernel_rfl) (by kernel_rfl) (fun _ _ _ h => h) (Or.inl ⟨by rfl, ?_⟩) (by assumption) ?_
            rotate_left
            · ((intro w hSw); (try dsimp only at hSw); go_simp; (try with_reducible rfl))
            (try simp only [Act.put, List.setIfInBounds_toArray, List.set_cons_zero, List.set_cons_succ])
            refine wpAnyH_ready (rs := [1, 6]) (by kernel_rfl) (by simp) ?_
            refine AllReadyH.cons (o := ⟨some 75, _, _, _, _, _⟩) rfl (fun K hK => ?_) (AllReadyH.cons (o := ⟨some 80, _, _, _, _, _⟩) rfl (fun K hK => ?_) AllReadyH.nil)
            · go_simp
              refine hK.out _ _ (by (try dsimp only); (first | exact hHeld | exact HS0.out | exact ⟨⟨HS0.out.1.1.drew, HS0.out.1.2⟩, HS0.out.2⟩ | exact hT9 | exact hT8)) (fun hHeld => ?_)
              clear hK K
              (try simp only [Act.put, List.setIfInBounds_toArray, List.set_cons_zero, List.set_cons_succ])
              refine wpAnyH_ready (rs := [6]) (by kernel_rfl) (by simp) ?_
              refine AllReadyH.cons (o := ⟨some 80, _, _, _, _, _⟩) rfl (fun K hK => ?_) AllReadyH.nil
              obtain ⟨hS1, hS2⟩ := hHeld
              go_simp
              (go_at_call 51; (with_reducible refine (VY.out _).mono ?_); rintro e w8 ⟨t8, rfl, ht8, hs8⟩; have hT8 := sb_call (w5 := w8) (g := g) HS0.out hzq; have hcat1 : ¬ 9223372036854775807 < z1.size + t8.size := (by omega); clear x0 x1 x2 fx lx; have hb_ := HE5.out.fut (w' := w8); obtain ⟨x0, x1, x2⟩ := At.z3 hb_.at0; have fx := hb_.free 1; have lx := hb_.lt; clear hb_)
              refine hK.out _ _ (by (try dsimp only); (first | exact hHeld | exact HS0.out | exact ⟨⟨HS0.out.1.1.drew, HS0.out.1.2⟩, HS0.out.2⟩ | exact hT9 | exact hT8)) (fun hHeld => ?_)
              clear hK K
              (try simp only [Act.put, List.setIfInBounds_toArray, List.set_cons_zero, List.set_cons_succ])
              refine wpAnyH_take (i := 7) (oi := ⟨some 81, _, _, _, _, _⟩) (v := ?_) rfl (by kernel_rfl) (by kernel_rfl) (by kernel_rfl) (fun _ _ _ h => h) (Or.inl ⟨by rfl, ?_⟩) (by assumption) ?_
              rotate_left
              · ((intro w hSw); (try dsimp only at hSw); go_simp; (try with_reducible rfl))
              (try simp only [Act.put, List.setIfInBounds_toArray, List.set_cons_zero, List.set_cons_succ])
              refine wpAnyH_ready (rs := [12]) (by kernel_rfl) (by simp) ?_
              refine AllReadyH.cons (o := ⟨some 86, _, _, _, _, _⟩) rfl (fun K hK => ?_) AllReadyH.nil
              obtain ⟨hS1, hS2⟩ := hHeld
              go_simp
              (go_at_call 61; (with_reducible refine (PL.out _).mono ?_); rintro e w9 ⟨t9, rfl, ht9, hs9⟩; have hT9 := sb_call (w5 := w9) (g := g) hT8 (Nat.le_trans hzq hT8.1.2); have hcat2 : ¬ 9223372036854775807 < z1.size + t8.size + t9.size := (by omega); clear x0 x1 x2 fx lx; have hb_ := HE5.out.fut (w' := w9); obtain ⟨x0, x1, x2⟩ := At.z3 hb_.at0; have fx := hb_.free 1; have lx := hb_.lt; clear hb_)
              refine hK.out _ _ (by (try dsimp only); (first | exact hHeld | exact HS0.out | exact ⟨⟨HS0.out.1.1.drew, HS0.out.1.2⟩, HS0.out.2⟩ | exact hT9 | exact hT8)) (fun hHeld => ?_)
              clear hK K
              (try simp only [Act.put, List.setIfInBounds_toArray, List.set_cons_zero, List.set_cons_succ])
              refine wpAnyH_take (i := 13) (oi := ⟨some 87, _, _, _, _, _⟩) (v := ?_) rfl (by kernel_rfl) (by kernel_rfl) (by kernel_rfl) (fun _ _ _ h => h) (Or.inl ⟨by rfl, ?_⟩) (by assumption) ?_
              rotate_left
              · ((intro w hSw); (try dsimp only at hSw); go_simp; (try with_reducible rfl))
              (try simp only [Act.put, List.setIfInBounds_toArray, List.set_cons_zero, List.set_cons_succ])
              refine wpAnyH_take (i := 14) (oi := ⟨some 88, _, _, _, _, _⟩) (v := ?_) rfl (by kernel_rfl) (by kernel_rfl) (by kernel_rfl) (fun _ _ _ h => h) (Or.inl ⟨by rfl, ?_⟩) (by assumption) ?_
              rotate_left
              · ((intro w hSw); (try dsimp only at hSw); go_simp; (try with_reducible rfl))
              (try simp only [Act.put, List.setIfInBounds_toArray, List.set_cons_zero, List.set_cons_succ])
              refine wpAnyH_ready (rs := [15]) (by kernel_rfl) (by simp) ?_
              refine AllReadyH.cons (o := ⟨none, _, _, _, _, _⟩) rfl (fun K hK => ?_) AllReadyH.nil
              go_simp
              refine hK.out _ _ (by (try dsimp only); (exact sb_put (w := w) (wB := wq) hT9 hwg _)) (fun hHeld => ?_)
              clear hK K
              (try simp only [Act.put, List.setIfInBounds_toArray, List.set_cons_zero, List.set_cons_succ])
              refine wpAnyH_done (by kernel_rfl) ?_ _
              clear hHeld x0 x1 x2 fx lx
              go_wp2_with fail
              go_roundw
              case rel => exact ⟨j + 1, z1 ++ t8 ++ t9, by omega, by go_num, (HE5.out.fut (w' := w9)).set_ 1 _, (HE4.out.fut (w' := w9)).far (p := ⟨g, 1, none⟩) hne4 _, by rw [ByteArray.size_append, ByteArray.size_append]; omega, sb_put (sb_call (w5 := w9) HSB.out hzq) hwg _⟩
              case measure => simp [intOf]; omega
            · obtain ⟨hS1, hS2⟩ := hHeld
              go_simp
              (go_at_call 51; (with_reducible refine (VY.out _).mono ?_); rintro e w8 ⟨t8, rfl, ht8, hs8⟩; have hT8 := sb_call (w5 := w8) (g := g) HS0.out hzq; have hcat1 : ¬ 9223372036854775807 < z1.size + t8.size := (by omega); clear x0 x1 x2 fx lx; have hb_ := HE5.out.fut (w' := w8); obtain ⟨x0, x1, x2⟩ := At.z3 hb_.at0; have fx := hb_.free 1; have lx := hb_.lt; clear hb_)
              refine hK.out _ _ (by (try dsimp only); (first | exact hHeld | exact HS0.out | exact ⟨⟨HS0.out.1.1.drew, HS0.out.1.2⟩, HS0.out.2⟩ | exact hT9 | exact hT8)) (fun hHeld => ?_)
              clear hK K
              (try simp only [Act.put, List.setIfInBounds_toArray, List.set_cons_zero, List.set_cons_succ])
              refine wpAnyH_ready (rs := [1, 12]) (by kernel_rfl) (by simp) ?_
              refine AllReadyH.cons (o := ⟨some 75, _, _, _, _, _⟩) rfl (fun K hK => ?_) (AllReadyH.cons (o := ⟨some 86, _, _, _, _, _⟩) rfl (fun K hK => ?_) AllReadyH.nil)
              · go_simp
                refine hK.out _ _ (by (try dsimp only); (first | exact hHeld | exact HS0.out | exact ⟨⟨HS0.out.1.1.drew, HS0.out.1.2⟩, HS0.out.2⟩ | exact hT9 | exact hT8)) (fun hHeld => ?_)
                clear hK K
                (try simp only [Act.put, List.setIfInBounds_toArray, List.set_cons_zero, List.set_cons_succ])
                refine wpAnyH_take (i := 7) (oi := ⟨some 81, _, _, _, _, _⟩) (v := ?_) rfl (by kernel_rfl) (by kernel_rfl) (by kernel_rfl) (fun _ _ _ h => h) (Or.inl ⟨by rfl, ?_⟩) (by assumption) ?_
                rotate_left
                · ((intro w hSw); (try dsimp only at hSw); go_simp; (try with_reducible rfl))
                (try simp only [Act.put, List.setIfInBounds_toArray, List.set_cons_zero, List.set_cons_succ])
                refine wpAnyH_ready (rs := [12]) (by kernel_rfl) (by simp) ?_
                refine AllReadyH.cons (o := ⟨some 86, _, _, _, _, _⟩) rfl (fun K hK => ?_) AllReadyH.nil
                obtain ⟨hS1, hS2⟩ := hHeld
                go_simp
                (go_at_call 61; (with_reducible refine (PL.out _).mono ?_); rintro e w9 ⟨t9, rfl, ht9, hs9⟩; have hT9 := sb_call (w5 := w9) (g := g) hT8 (Nat.le_trans hzq hT8.1.2); have hcat2 : ¬ 9223372036854775807 < z1.size + t8.size + t9.size := (by omega); clear x0 x1 x2 fx lx; have hb_ := HE5.out.fut (w' := w9); obtain ⟨x0, x1, x2⟩ := At.z3 hb_.at0; have fx := hb_.free 1; have lx := hb_.lt; clear hb_)
                refine hK.out _ _ (by (try dsimp only); (first | exact hHeld | exact HS0.out | exact ⟨⟨HS0.out.1.1.drew, HS0.out.1.2⟩, HS0.out.2⟩ | exact hT9 | exact hT8)) (fun hHeld => ?_)
                clear hK K
                (try simp only [Act.put, List.setIfInBounds_toArray, List.set_cons_zero, List.set_cons_succ])
                refine wpAnyH_take (i := 13) (oi := ⟨some 87, _, _, _, _, _⟩) (v := ?_) rfl (by kernel_rfl) (by kernel_rfl) (by kernel_rfl) (fun _ _ _ h => h) (Or.inl ⟨by rfl, ?_⟩) (by assumption) ?_
                rotate_left
                · ((intro w hSw); (try dsimp only at hSw); go_simp; (try with_reducible rfl))
                (try simp only [Act.put, List.setIfInBounds_toArray, List.set_cons_zero, List.set_cons_succ])
                refine wpAnyH_take (i := 14) (oi := ⟨some 88, _, _, _, _, _⟩) (v := ?_) rfl (by kernel_rfl) (by kernel_rfl) (by kernel_rfl) (fun _ _ _ h => h) (Or.inl ⟨by rfl, ?_⟩) (by assumption) ?_
                rotate_left
                · ((intro w hSw); (try dsimp only at hSw); go_simp; (try with_reducible rfl))
                (try simp only [Act.put, List.setIfInBounds_toArray, List.set_cons_zero, List.set_cons_succ])
                refine wpAnyH_ready (rs := [15]) (by kernel_rfl) (by simp) ?_
                refine AllReadyH.cons (o := ⟨none, _, _, _, _, _⟩) rfl (fun K hK => ?_) AllReadyH.nil
                go_simp
                refine hK.out _ _ (by (try dsimp only); (exact sb_put (w := w) (wB := wq) hT9 hwg _)) (fun hHeld => ?_)
                clear hK K
                (try simp only [Act.put, List.setIfInBounds_toArray, List.set_cons_zero, List.set_cons_succ])
                refine wpAnyH_done (by kernel_rfl) ?_ _
                clear hHeld x0 x1 x2 fx lx
                go_wp2_with fail
                go_roundw
                case rel => exact ⟨j + 1, z1 ++ t8 ++ t9, by omega, by go_num, (HE5.out.fut (w' := w9)).set_ 1 _, (HE4.out.fut (w' := w9)).far (p := ⟨g, 1, none⟩) hne4 _, by rw [ByteArray.size_append, ByteArray.size_append]; omega, sb_put (sb_call (w5 := w9) HSB.out hzq) hwg _⟩
                case measure => simp [intOf]; omega
              · obtain ⟨hS1, hS2⟩ := hHeld
                go_simp
                (go_at_call 61; (with_reducible refine (PL.out _).mono ?_); rintro e w9 ⟨t9, rfl, ht9, hs9⟩; have hT9 := sb_call (w5 := w9) (g := g) hT8 (Nat.le_trans hzq hT8.1.2); have hcat2 : ¬ 9223372036854775807 < z1.size + t8.size + t9.size := (by omega); clear x0 x1 x2 fx lx; have hb_ := HE5.out.fut (w' := w9); obtain ⟨x0, x1, x2⟩ := At.z3 hb_.at0; have fx := hb_.free 1; have lx := hb_.lt; clear hb_)
                refine hK.out _ _ (by (try dsimp only); (first | exact hHeld | exact HS0.out | exact ⟨⟨HS0.out.1.1.drew, HS0.out.1.2⟩, HS0.out.2⟩ | exact hT9 | exact hT8)) (fun hHeld => ?_)
                clear hK K
                (try simp only [Act.put, List.setIfInBounds_toArray, List.set_cons_zero, List.set_cons_succ])
                refine wpAnyH_ready (rs := [1]) (by kernel_rfl) (by simp) ?_
                refine AllReadyH.cons (o := ⟨some 75, _, _, _, _, _⟩) rfl (fun K hK => ?_) AllReadyH.nil
                go_simp
                refine hK.out _ _ (by (try dsimp only); (first | exact hHeld | exact HS0.out | exact ⟨⟨HS0.out.1.1.drew, HS0.out.1.2⟩, HS0.out.2⟩ | exact hT9 | exact hT8)) (fun hHeld => ?_)
                clear hK K
                (try simp only [Act.put, List.setIfInBounds_toArray, List.set_cons_zero, List.set_cons_succ])
                refine wpAnyH_take (i := 7) (oi := ⟨some 81, _, _, _, _, _⟩) (v := ?_) rfl (by kernel_rfl) (by kernel_rfl) (by kernel_rfl) (fun _ _ _ h => h) (Or.inl ⟨by rfl, ?_⟩) (by assumption) ?_
                rotate_left
                · ((intro w hSw); (try dsimp only at hSw); go_simp; (try with_reducible rfl))
                (try simp only [Act.put, List.setIfInBounds_toArray, List.set_cons_zero, List.set_cons_succ])
                refine wpAnyH_take (i := 13) (oi := ⟨some 87, _, _, _, _, _⟩) (v := ?_) rfl (by kernel_rfl) (by kernel_rfl) (by kernel_rfl) (fun _ _ _ h => h) (Or.inl ⟨by rfl, ?_⟩) (by assumption) ?_
                rotate_left
                · ((intro w hSw); (try dsimp only at hSw); go_simp; (try with_reducible rfl))
                (try simp only [Act.put, List.setIfInBounds_toArray, List.set_cons_zero, List.set_cons_succ])
                refine wpAnyH_take (i := 14) (oi := ⟨some 88, _, _, _, _, _⟩) (v := ?_) rfl (by kernel_rfl) (by kernel_rfl) (by kernel_rfl) (fun _ _ _ h => h) (Or.inl ⟨by rfl, ?_⟩) (by assumption) ?_
                rotate_left
                · ((intro w hSw); (try dsimp only at hSw); go_simp; (try with_reducible rfl))
                (try simp only [Act.put, List.setIfInBounds_toArray, List.set_cons_zero, List.set_cons_succ])
                refine wpAnyH_ready (rs := [15]) (by kernel_rfl) (by simp) ?_
                refine AllReadyH.cons (o := ⟨none, _, _, _, _, _⟩) rfl (fun K hK => ?_) AllReadyH.nil
                go_simp
                refine hK.out _ _ (by (try dsimp only); (exact sb_put (w := w) (wB := wq) hT9 hwg _)) (fun hHeld => ?_)
                clear hK K
                (try simp only [Act.put, List.setIfInBounds_toArray, List.set_cons_zero, List.set_cons_succ])
                refine wpAnyH_done (by kernel_rfl) ?_ _
                clear hHeld x0 x1 x2 fx lx
                go_wp2_with fail
                go_roundw
                case rel => exact ⟨j + 1, z1 ++ t8 ++ t9, by omega, by go_num, (HE5.out.fut (w' := w9)).set_ 1 _, (HE4.out.fut (w' := w9)).far (p := ⟨g, 1, none⟩) hne4 _, by rw [ByteArray.size_append, ByteArray.size_append]; omega, sb_put (sb_call (w5 := w9) HSB.out hzq) hwg _⟩
                case measure => simp [intOf]; omega
          · obtain rfl : j = us.length := by omega
            have hz1b : z1.size ≤ 400000 := by omega
            have hus4 : us.length ≤ 4096 := by omega
            go_upto_region 24 with (go_at_call 63; (with_reducible refine (HBD.out _).mono ?_); rintro e w10 ⟨Y1, e1, us2, Y2, e2, ats, rfl, hul2, hat2, hats, hus2, hy1, hy2, hs10⟩; have HY1 := hide (hy1.sl (vals_fit us2).len); have HY2 := hide (hy2.sl (int_fit ats).len); have HATS := hide hats; have HUS2 := hide hus2; have HB1 := hide hy1.abv; have HB2 := hide hy2.abv; have HATL := hide hat2; clear hy1 hy2 hats hus2 hat2)
            have hgq : g < wq.heap.size := HE5.out.lt
            have hz10 := (fut wq w10).size
            have V10 := hide (fun w' => HV1.out us2.length (by omega) w')
            go_upto_region 25 with (go_at_call 51; (with_reducible refine (V10.out _).mono ?_); rintro e w11 ⟨t11, rfl, ht11, hs11⟩; have hb_ := HE5.out.fut (w' := w11); obtain ⟨x0, x1, x2⟩ := At.z3 hb_.at0; have fx := hb_.free 2; have lx := hb_.lt; clear hb_)
            clear x0 x1 x2 fx lx
            obtain ⟨YB, hYB⟩ : ∃ YB, YB = w11.setCell ⟨g, 2, none⟩ (.string t11) := ⟨_, rfl⟩
            have HB11 : Hid (Blk YB g 73 [.string z, .string z1, .string t11]) := by rw [hYB]; exact (HE5.out.fut (w' := w11)).set_ 2 _
            have HD11 : Hid (Blk YB g4 73 [.string ⟨#[]⟩, .string ⟨#[]⟩, .string ⟨#[]⟩]) := by rw [hYB]; exact (HE4.out.fut (w' := w11)).far (p := ⟨g, 2, none⟩) hne4 _
            have HSB11 : Hid (SBd w w10 g YB) := by rw [hYB]; exact sb_put (sb_call (w5 := w11) (sb_self (g := g) (fut w w10)) (fut w w10).size) hwg _
            rw [← hYB]
            clear hYB
            go_wp2_with fail
            go_loopw [17] (fun iv wr => ∃ (p : Nat) (z2 : ByteArray), p ≤ us2.length ∧ iv = .int .i64 p ∧ Blk wr g 73 [.string z, .string z1, .string z2] ∧ Blk wr g4 73 [.string ⟨#[]⟩, .string ⟨#[]⟩, .string ⟨#[]⟩] ∧ z2.size ≤ 10 + p * 74 ∧ SBd w w10 g wr) (fun iv _ => us2.length - (intOf iv).toNat)
            case atStart => exact ⟨0, t11, Nat.zero_le _, rfl, HB11.out, HD11.out, by omega, HSB11.out⟩
            case round =>
              obtain ⟨p, z2, hp, rfl, hb5, hb4, hz2, hsb⟩ := hrel
              have HF5 := hide hb5; have HF4 := hide hb4; have HSC := hide hsb
              clear hb5 hb4 HB11 HD11 HSB11
              obtain ⟨wp, rfl⟩ : ∃ x : World, x = wr := ⟨_, rfl⟩
              have Sp_ : Step w wp := ⟨hsb.1.1⟩
              have hzp := Sp_.size
              clear hsb
              by_cases hlt3 : p < us2.length
              · have hX2 := SlAt.sb HY1.out HSC.out (HB1.out.mono (m := g + 1) (by omega))
                obtain ⟨b2, o2, rfl, hb2, hc2⟩ := hX2.elem (w' := wp) inferInstance (k := p) (by simpa using hlt3)
                obtain ⟨u, hu⟩ : ∃ u, us2[p]? = some u := ⟨_, List.getElem?_eq_getElem hlt3⟩
                obtain ⟨u0, u1, u2, u3⟩ := At.l4 (hc2 p u.cells (by simp [hu]))
                have hbg2 : b2 ≠ g := by have := HB1.out b2 o2 rfl; omega
                have hjl3 : (p : Int) < (us2.length : Int) := by omega
                have hj30 : (0 : Int) ≤ (p : Int) := by omega
                have hub := HSZ.out u (HUS2.out u (List.mem_of_getElem? hu))
                have PL := fun w' => plainT_any u w' (by omega)
                unfold Txt at PL
                have PL := hide PL
                obtain ⟨x0, x1, x2⟩ := At.z3 HF5.out.at0
                have fx := HF5.out.free 2
                have lx := HF5.out.lt
                have HS0 := hide (sb_self (g := g) (fut w wp))
                clear hc2 hu hX2
                go_upto_region 28 with (fail)
                refine wp_region_held_drew (S := (fun w' => (Below w.heap.size w w' ∧ wp.heap.size ≤ w'.heap.size) ∧ (∀ b o, b < wp.heap.size → b ≠ g → w'.cell? ⟨b, o, none⟩ = wp.cell? ⟨b, o, none⟩))) (by kernel_rfl) (by (try dsimp only); (first | exact hHeld | exact HS0.out | exact ⟨⟨HS0.out.1.1.drew, HS0.out.1.2⟩, HS0.out.2⟩ | exact hT9)) (fun hHeld => ?_)
                refine wpAnyH_take (i := 0) (oi := ⟨some 104, _, _, _, _, _⟩) (v := ?_) rfl (by kernel_rfl) (by kernel_rfl) (by kernel_rfl) (fun _ _ _ h => h) (Or.inl ⟨by rfl, ?_⟩) (by assumption) ?_
                rotate_left
                · ((intro w hSw); (try dsimp only at hSw); go_simp; (try with_reducible rfl))
                (try simp only [Act.put, List.setIfInBounds_toArray, List.set_cons_zero, List.set_cons_succ])
                refine wpAnyH_take (i := 2) (oi := ⟨some 106, _, _, _, _, _⟩) (v := ?_) rfl (by kernel_rfl) (by kernel_rfl) (by kernel_rfl) (fun _ _ _ h => h) (Or.inl ⟨by rfl, ?_⟩) (by assumption) ?_
                rotate_left
                · ((intro w hSw); (try dsimp only at hSw); go_simp; (try with_reducible rfl))
                (try simp only [Act.put, List.setIfInBounds_toArray, List.set_cons_zero, List.set_cons_succ])
                refine wpAnyH_take (i := 3) (oi := ⟨some 107, _, _, _, _, _⟩) (v := ?_) rfl (by kernel_rfl) (by kernel_rfl) (by kernel_rfl) (fun _ _ _ h => h) (Or.inl ⟨by rfl, ?_⟩) (by assumption) ?_
                rotate_left
                · ((intro w hSw); (try dsimp only at hSw); go_simp; (try with_reducible rfl))
                (try simp only [Act.put, List.setIfInBounds_toArray, List.set_cons_zero, List.set_cons_succ])
                refine wpAnyH_take (i := 4) (oi := ⟨some 108, _, _, _, _, _⟩) (v := ?_) rfl (by kernel_rfl) (by kernel_rfl) (by kernel_rfl) (fun _ _ _ h => h) (Or.inl ⟨by rfl, ?_⟩) (by assumption) ?_
                rotate_left
                · ((intro w hSw); (try dsimp only at hSw); go_simp; (try with_reducible rfl))
                (try simp only [Act.put, List.setIfInBounds_toArray, List.set_cons_zero, List.set_cons_succ])
                refine wpAnyH_take (i := 5) (oi := ⟨some 109, _, _, _, _, _⟩) (v := ?_) rfl (by kernel_rfl) (by kernel_rfl) (by kernel_rfl) (fun _ _ _ h => h) (Or.inl ⟨by rfl, ?_⟩) (by assumption) ?_
                rotate_left
                · ((intro w hSw); (try dsimp only at hSw); go_simp; (try with_reducible rfl))
                (try simp only [Act.put, List.setIfInBounds_toArray, List.set_cons_zero, List.set_cons_succ])
                refine wpAnyH_ready (rs := [1, 6]) (by kernel_rfl) (by simp) ?_
                refine AllReadyH.cons (o := ⟨some 105, _, _, _, _, _⟩) rfl (fun K hK => ?_) (AllReadyH.cons (o := ⟨some 110, _, _, _, _, _⟩) rfl (fun K hK => ?_) AllReadyH.nil)
                · go_simp
                  refine hK.out _ _ (by (try dsimp only); (first | exact hHeld | exact HS0.out | exact ⟨⟨HS0.out.1.1.drew, HS0.out.1.2⟩, HS0.out.2⟩ | exact hT9)) (fun hHeld => ?_)
                  clear hK K
                  (try simp only [Act.put, List.setIfInBounds_toArray, List.set_cons_zero, List.set_cons_succ])
                  refine wpAnyH_ready (rs := [6]) (by kernel_rfl) (by simp) ?_
                  refine AllReadyH.cons (o := ⟨some 110, _, _, _, _, _⟩) rfl (fun K hK => ?_) AllReadyH.nil
                  obtain ⟨hS1, hS2⟩ := hHeld
                  go_simp
                  (go_at_call 61; (with_reducible refine (PL.out _).mono ?_); rintro e w12 ⟨t9, rfl, ht9, hs12⟩; have hT9 := sb_call (w5 := w12) (g := g) HS0.out hzp; have hcat2 : ¬ 9223372036854775807 < z2.size + t9.size := (by omega); clear x0 x1 x2 fx lx; have hb_ := HF5.out.fut (w' := w12); obtain ⟨x0, x1, x2⟩ := At.z3 hb_.at0; have fx := hb_.free 2; have lx := hb_.lt; clear hb_)
                  refine hK.out _ _ (by (try dsimp only); (first | exact hHeld | exact HS0.out | exact ⟨⟨HS0.out.1.1.drew, HS0.out.1.2⟩, HS0.out.2⟩ | exact hT9)) (fun hHeld => ?_)
                  clear hK K
                  (try simp only [Act.put, List.setIfInBounds_toArray, List.set_cons_zero, List.set_cons_succ])
                  refine wpAnyH_take (i := 7) (oi := ⟨some 111, _, _, _, _, _⟩) (v := ?_) rfl (by kernel_rfl) (by kernel_rfl) (by kernel_rfl) (fun _ _ _ h => h) (Or.inl ⟨by rfl, ?_⟩) (by assumption) ?_
                  rotate_left
                  · ((intro w hSw); (try dsimp only at hSw); go_simp; (try with_reducible rfl))
                  (try simp only [Act.put, List.setIfInBounds_toArray, List.set_cons_zero, List.set_cons_succ])
                  refine wpAnyH_take (i := 8) (oi := ⟨some 112, _, _, _, _, _⟩) (v := ?_) rfl (by kernel_rfl) (by kernel_rfl) (by kernel_rfl) (fun _ _ _ h => h) (Or.inl ⟨by rfl, ?_⟩) (by assumption) ?_
                  rotate_left
                  · ((intro w hSw); (try dsimp only at hSw); go_simp; (try with_reducible rfl))
                  (try simp only [Act.put, List.setIfInBounds_toArray, List.set_cons_zero, List.set_cons_succ])
                  refine wpAnyH_ready (rs := [9]) (by kernel_rfl) (by simp) ?_
                  refine AllReadyH.cons (o := ⟨none, _, _, _, _, _⟩) rfl (fun K hK => ?_) AllReadyH.nil
                  go_simp
                  refine hK.out _ _ (by (try dsimp only); (exact sb_put (w := w) (wB := wp) hT9 hwg _)) (fun hHeld => ?_)
                  clear hK K
                  (try simp only [Act.put, List.setIfInBounds_toArray, List.set_cons_zero, List.set_cons_succ])
                  refine wpAnyH_done (by kernel_rfl) ?_ _
                  clear hHeld x0 x1 x2 fx lx
                  go_wp2_with fail
                  go_roundw
                  case rel => exact ⟨p + 1, z2 ++ t9, by omega, by go_num, (HF5.out.fut (w' := w12)).set_ 2 _, (HF4.out.fut (w' := w12)).far (p := ⟨g, 2, none⟩) hne4 _, by rw [ByteArray.size_append]; omega, sb_put (sb_call (w5 := w12) HSC.out hzp) hwg _⟩
                  case measure => simp [intOf]; omega
                · obtain ⟨hS1, hS2⟩ := hHeld
                  go_simp
                  (go_at_call 61; (with_reducible refine (PL.out _).mono ?_); rintro e w12 ⟨t9, rfl, ht9, hs12⟩; have hT9 := sb_call (w5 := w12) (g := g) HS0.out hzp; have hcat2 : ¬ 9223372036854775807 < z2.size + t9.size := (by omega); clear x0 x1 x2 fx lx; have hb_ := HF5.out.fut (w' := w12); obtain ⟨x0, x1, x2⟩ := At.z3 hb_.at0; have fx := hb_.free 2; have lx := hb_.lt; clear hb_)
                  refine hK.out _ _ (by (try dsimp only); (first | exact hHeld | exact HS0.out | exact ⟨⟨HS0.out.1.1.drew, HS0.out.1.2⟩, HS0.out.2⟩ | exact hT9)) (fun hHeld => ?_)
                  clear hK K
                  (try simp only [Act.put, List.setIfInBounds_toArray, List.set_cons_zero, List.set_cons_succ])
                  refine wpAnyH_ready (rs := [1]) (by kernel_rfl) (by simp) ?_
                  refine AllReadyH.cons (o := ⟨some 105, _, _, _, _, _⟩) rfl (fun K hK => ?_) AllReadyH.nil
                  go_simp
                  refine hK.out _ _ (by (try dsimp only); (first | exact hHeld | exact HS0.out | exact ⟨⟨HS0.out.1.1.drew, HS0.out.1.2⟩, HS0.out.2⟩ | exact hT9)) (fun hHeld => ?_)
                  clear hK K
                  (try simp only [Act.put, List.setIfInBounds_toArray, List.set_cons_zero, List.set_cons_succ])
                  refine wpAnyH_take (i := 7) (oi := ⟨some 111, _, _, _, _, _⟩) (v := ?_) rfl (by kernel_rfl) (by kernel_rfl) (by kernel_rfl) (fun _ _ _ h => h) (Or.inl ⟨by rfl, ?_⟩) (by assumption) ?_
                  rotate_left
                  · ((intro w hSw); (try dsimp only at hSw); go_simp; (try with_reducible rfl))
                  (try simp only [Act.put, List.setIfInBounds_toArray, List.set_cons_zero, List.set_cons_succ])
                  refine wpAnyH_take (i := 8) (oi := ⟨some 112, _, _, _, _, _⟩) (v := ?_) rfl (by kernel_rfl) (by kernel_rfl) (by kernel_rfl) (fun _ _ _ h => h) (Or.inl ⟨by rfl, ?_⟩) (by assumption) ?_
                  rotate_left
                  · ((intro w hSw); (try dsimp only at hSw); go_simp; (try with_reducible rfl))
                  (try simp only [Act.put, List.setIfInBounds_toArray, List.set_cons_zero, List.set_cons_succ])
                  refine wpAnyH_ready (rs := [9]) (by kernel_rfl) (by simp) ?_
                  refine AllReadyH.cons (o := ⟨none, _, _, _, _, _⟩) rfl (fun K hK => ?_) AllReadyH.nil
                  go_simp
                  refine hK.out _ _ (by (try dsimp only); (exact sb_put (w := w) (wB := wp) hT9 hwg _)) (fun hHeld => ?_)
                  clear hK K
                  (try simp only [Act.put, List.setIfInBounds_toArray, List.set_cons_zero, List.set_cons_succ])
                  refine wpAnyH_done (by kernel_rfl) ?_ _
                  clear hHeld x0 x1 x2 fx lx
                  go_wp2_with fail
                  go_roundw
                  case rel => exact ⟨p + 1, z2 ++ t9, by omega, by go_num, (HF5.out.fut (w' := w12)).set_ 2 _, (HF4.out.fut (w' := w12)).far (p := ⟨g, 2, none⟩) hne4 _, by rw [ByteArray.size_append]; omega, sb_put (sb_call (w5 := w12) HSC.out hzp) hwg _⟩
                  case measure => simp [intOf]; omega
              · obtain rfl : p = us2.length := by omega
                have hX := SlAt.sb HY2.out HSC.out (HB2.out.mono (m := g + 1) (by omega))
                have HXX := hide hX
                clear hX
                have hus24 : us2.length ≤ 4096 := by omega
                have WD := hide (fun w' => width_any ((us2.length : Int) - 1) w' (by omega))
                have PK := hide (fun (kn : Nat) (h : kn ≤ 13) w' [Fut wp w'] => pack_any (w0 := wp) ats Y2 e2 kn w' HXX.out (by rw [HATL.out]; exact hl) h (fun x hx => by have := HATS.out x hx; omega))
                go_upto_region 30 with (first
                  | (go_at_call 64; (with_reducible refine (WD.out _).mono ?_); rintro e w13 ⟨kk, rfl, hk0, hk13, rfl⟩; obtain ⟨kn, rfl⟩ : ∃ kn : Nat, kk = (kn : Int) := ⟨kk.toNat, by omega⟩; have hkn : kn ≤ 13 := (by omega); have PK2 := hide (fun w' [Fut wp w'] => PK.out kn hkn w'))
                  | (go_at_call 49; (with_reducible refine (PK2.out _).mono ?_); rintro e w14 ⟨s2, code2, rfl, hs2, hs14⟩; have hb_ := HF5.out.fut (w' := w14); obtain ⟨x0, x1, x2⟩ := At.z3 hb_.at0; have fx := hb_.free; have lx := hb_.lt; clear hb_; have hb_ := HF4.out.fut (w' := w14); obtain ⟨y0, y1, y2⟩ := At.z3 hb_.at0; have fy := hb_.free; have ly := hb_.lt; clear hb_; have hcat3 : ¬ 9223372036854775807 < z2.size + s2.size := (by omega)))
                go_wp2_with fail
                clear x0 x1 x2 fx lx y0 y1 y2 fy ly
                have HR := hide (((((HF4.out.fut (w' := w14)).far (p := ⟨g, 2, none⟩) hne4 (.string (z2 ++ s2))).set_ 0 (.string z)).set_ 1 (.string z1)).set_ 2 (.string (z2 ++ s2)))
                obtain ⟨t0, t1, t2⟩ := At.z3 HR.out.at0
                refine bodyPost_ret (v := .agg #[.string z, .string z1, .string (z2 ++ s2)]) (by simp [results, Tryd.results48, go_sem, t0, t1, t2]) rfl ?_
                exact ⟨z, z1, z2 ++ s2, rfl, by omega, by omega, by rw [ByteArray.size_append]; omega, ⟨((((fut w w14).setCell (p := ⟨g, 2, none⟩) hwg _).setCell (p := ⟨g4, 0, none⟩) hwg4 _).setCell (p := ⟨g4, 1, none⟩) hwg4 _).setCell (p := ⟨g4, 2, none⟩) hwg4 _⟩⟩
end Go.Proofs.YtinpnginjpfbpaaDoor
