/-
  container/heap's down over a pile.
-/
import Derived.Test.YtafgfehjdbomfaaDoorHq
namespace Go.Proofs.YtafgfehjdbomfaaDoor
open Go.RowKit

/-- Rows in order of their values. -/
def ltA (a b : RowA) : Bool := lessL a.vs b.vs
theorem weakA : Weak ltA := ⟨fun x => lessL_weak.irr x.vs, fun x y => lessL_weak.asym x.vs y.vs, fun x y z => lessL_weak.tr x.vs y.vs z.vs⟩
/-- Of what was there only block p and block q may have turned. -/
structure Only (w w' : World) (p : Nat) (q : Option Nat) : Prop where
  size : w.heap.size ≤ w'.heap.size
  block : ∀ k, k < w.heap.size → k ≠ p → some k ≠ q → w'.heap[k]? = w.heap[k]?
theorem Only.refl (w : World) (p : Nat) (q : Option Nat) : Only w w p q := ⟨Nat.le_refl _, fun _ _ _ _ => rfl⟩
theorem Only.trans {w w' w'' : World} {p : Nat} {q : Option Nat} (h : Only w w' p q) (h2 : Only w' w'' p q) : Only w w'' p q :=
  ⟨Nat.le_trans h.size h2.size, fun k hk h1 h3 => (h2.block k (Nat.lt_of_lt_of_le hk h.size) h1 h3).trans (h.block k hk h1 h3)⟩
theorem Only.below {w w' : World} {p : Nat} {q : Option Nat} (h : Below w.heap.size w w') : Only w w' p q := ⟨h.size, fun k hk _ _ => h.block k hk⟩
theorem Only.grown {w w' : World} {p : Nat} {q : Option Nat} (h : w.grownBy w' q) : Only w w' p q := ⟨h.size, fun k hk _ h2 => h.block k hk h2⟩
theorem Only.grownP {w w' : World} {p : Nat} {q : Option Nat} (h : w.grownBy w' (some p)) : Only w w' p q := ⟨h.size, fun k hk h1 _ => h.block k hk (by simpa using h1)⟩
theorem Own.only {w w' : World} {base p : Nat} {q : Option Nat} {e : TypeId} {size : Nat} {v : Value} {l : List (List Value)} (h : Own w base e size v l) (ho : Only w w' p q) (hne : ∀ k, v.ownBlock = some k → k ≠ p ∧ some k ≠ q) : Own w' base e size v l := by
  refine ⟨h.1, ?_⟩
  rcases h.2 with h2 | ⟨g, cap, cur, hv, hg, hh, r⟩
  · exact .inl h2
  · have h3 := hne g (by rw [hv]; rfl)
    exact .inr ⟨g, cap, cur, hv, hg, by rw [ho.block g (Array.getElem?_eq_some_iff.1 hh).1 h3.1 h3.2]; exact hh, r⟩
def IsB (e : Ending) : Prop := ∃ b, e = .returned (.bool b)
theorem isB (b : Bool) : IsB (.returned (.bool b)) := ⟨b, rfl⟩
def FineR (r : RowA) : Prop := r.vs.length ≤ 3518437208780 ∧ ∀ v ∈ r.vs, v.s.size ≤ 9223372036854775807
set_option maxRecDepth 100000 in
set_option maxHeartbeats 16000000 in
theorem pdown_any {w0 : World} (gp N c i0 n : Nat) (A : Option Addr) (rs : List RowA) (w : World) [f0 : Fut w0 w] (hl : rs.length = N) (hN : N ≤ 5864062014634) (hn : n ≤ N) (hi0 : i0 ≤ N) (ho : OwnR w w0.heap.size A N c rs) (hp : Blk w gp 90 [.slice A N c]) (hh : HeapBut ltA rs n i0 i0) (hf : ∀ r ∈ rs, FineR r) :
    Calls Tryd.prog 81 #[.iface 92 (.pointer (some ⟨gp, 0, none⟩)), .int .i64 i0, .int .i64 n] w fun e w' => IsB e ∧ ∃ ls : List RowA, ls.length = N ∧ ls.Perm rs ∧ (∀ k, n ≤ k → ls[k]? = rs[k]?) ∧ HeapFrom ltA ls n i0 ∧ OwnR w' w0.heap.size A N c ls ∧ Blk w' gp 90 [.slice A N c] ∧ Only w w' gp (Value.slice A N c).ownBlock ∧ Step w0 w' := by
  have z0 := f0.below.size
  have HF := hide hf
  have HO0 := hide ho; have HB0 := hide hp; have HH0 := hide hh; have HL0 := hide hl
  clear hf ho hp hh
  go_enter Tryd.func81, Tryd.ntmps81
  go_wp2_with fail
  go_loopw [7, 8, 9, 10] (fun iv _ _ _ wr => ∃ (i : Nat) (ls : List RowA), (i ≤ i0 ∨ i < n) ∧ iv = .int .i64 i ∧ Hid (ls.length = N) ∧ ls.Perm rs ∧ (∀ k, n ≤ k → ls[k]? = rs[k]?) ∧ HeapBut ltA ls n i0 i ∧ OwnR wr w0.heap.size A N c ls ∧ Blk wr gp 90 [.slice A N c] ∧ Only w wr gp (Value.slice A N c).ownBlock ∧ Step w0 wr) (fun iv _ _ _ _ => n - (intOf iv).toNat)
  case atStart => exact ⟨i0, rs, .inl (Nat.le_refl _), rfl, HL0.out, List.Perm.refl _, fun _ _ => rfl, HH0.out, HO0.out, HB0.out, Only.refl _ _ _, ⟨f0.below⟩⟩
  case round =>
    obtain ⟨i, ls, hin, rfl, HLN, hpe, htl, hhb, how, hbp, hon, hst⟩ := hrel
    clear HO0 HB0 HH0
    have HPE := hide hpe; have HTL := hide htl; have HHB := hide hhb; have HO := hide how; have HB := hide hbp; have HON := hide hon
    clear hpe htl hhb how hbp hon
    obtain ⟨wo, rfl⟩ : ∃ x : World, x = wr := ⟨_, rfl⟩
    have hzo := hst.size
    have hiN : i ≤ N := by omega
    have hri : RowsIn wo ls A c := by
      have h_ := HO.out
      rw [← HLN.out] at h_
      exact h_.rin (by rw [HLN.out]; exact hN) (fun vs hv => by
        obtain ⟨r, hr, rfl⟩ := List.mem_map.1 hv
        exact HF.out r (HPE.out.mem_iff.1 hr))
    have HRI := hide hri
    clear hri
    have p0 := At.z1 HB.out.at0
    have lp0 := HB.out.lt
    obtain ⟨j1, e1⟩ : ∃ j1 : Nat, 2 * (i : Int) + 1 = (j1 : Int) := ⟨2 * i + 1, by omega⟩
    obtain ⟨j2, e2⟩ : ∃ j2 : Nat, (j1 : Int) + 1 = (j2 : Int) := ⟨j1 + 1, by omega⟩
    have hi0_ : (0 : Int) ≤ (i : Int) := by omega
    by_cases h1 : j1 < n
    · have h1' : (j1 : Int) < (n : Int) := by omega
      have h10 : ¬ (j1 : Int) < 0 := by omega
      obtain ⟨x, hx⟩ : ∃ x, ls[i]? = some x := ⟨_, List.getElem?_eq_getElem (by have := HLN.out; omega)⟩
      obtain ⟨y1, hy1⟩ : ∃ y, ls[j1]? = some y := ⟨_, List.getElem?_eq_getElem (by have := HLN.out; omega)⟩
      have HX := hide hx; have HY1 := hide hy1
      clear hx hy1
      by_cases h2 : j2 < n
      · have h2' : (j2 : Int) < (n : Int) := by omega
        obtain ⟨y2, hy2⟩ : ∃ y, ls[j2]? = some y := ⟨_, List.getElem?_eq_getElem (by have := HLN.out; omega)⟩
        have HY2 := hide hy2
        clear hy2
        have ml := m_less gp N c A wo p0
        have PL1 := pless2_any ls A c j2 j1 y2 y1 wo HRI.out HY2.out HY1.out
        rw [HLN.out] at PL1
        cases h21 : lessL y2.vs y1.vs with
        | true =>
          rw [h21] at PL1
          have HJ := hide HY2.out
          have HCJ : Child i j2 := by unfold Child; omega
          have HMJ : Hid (∀ c, c < n → Child i c → LeAt ltA ls j2 c) := fun c hc hch a b ha hb => by
            rw [HY2.out] at ha; injection ha with ha; subst ha
            rcases (show c = j1 ∨ c = j2 by unfold Child at hch; omega) with e | e
            · rw [e, HY1.out] at hb; injection hb with hb; subst hb
              exact weakA.asym y2 y1 h21
            · rw [e, HY2.out] at hb; injection hb with hb; subst hb
              exact weakA.irr y2
          have PL1 := hide PL1
          clear h21
          go_upto_region 8 with (go_at_call 149; (with_reducible refine PL1.out.mono ?_); rintro e w5 ⟨rfl, hs5⟩; have b5_ := HB.out.fut (w' := w5); have p5 := At.z1 b5_.at0; have l5 := b5_.lt; clear b5_)
          have HMIN : Hid (∀ c, c < n → Child i c → LeAt ltA ls j2 c) := HMJ.out
          have ml6 := m_less gp N c A w5 p5
          have PL2 := hide (fun w' [Fut wo w'] => pless2_any ls A c j2 i y2 x w' HRI.out HJ.out HX.out)
          rw [HLN.out] at PL2
          cases hji : lessL y2.vs x.vs with
          | false =>
            have HEND := hide (HHB.out.stop (fun c hc hch a b ha hb => by
              rw [HX.out] at ha; injection ha with ha; subst ha
              exact weakA.tr x y2 b hji (HMIN.out c hc hch y2 b HJ.out hb)))
            rw [hji] at PL2
            have PL3 := hide PL2.out
            clear PL2 hji
            go_wp2_with (go_at_call 149; (with_reducible refine (PL3.out _).mono ?_); rintro e w8 ⟨rfl, hs8⟩)
            go_ret
            exact ⟨isB _, ls, HLN.out, HPE.out, HTL.out, HEND.out, HO.out.fut, HB.out.fut, HON.out.trans (Only.below (fut wo _)), Step.of⟩
          | true =>
            have HNX := hide (HHB.out.swap weakA HX.out HJ.out HCJ (by omega) HMIN.out hji)
            rw [hji] at PL2
            have PL3 := hide PL2.out
            clear PL2 hji
            go_upto_region 9 with (go_at_call 149; (with_reducible refine (PL3.out _).mono ?_); rintro e w8 ⟨rfl, hs8⟩; have b8_ := HB.out.fut (w' := w8); have p8 := At.z1 b8_.at0; have ms8 := m_swap gp N c A w8 p8; have l8 := b8_.lt; clear b8_)
            have HO8 := hide (OwnR.fut (w' := w8) HO.out)
            have PSW := pswap_any ls A c i j2 x y2 w8 (by rw [HLN.out]; exact HO8.out) HX.out HJ.out
            rw [HLN.out] at PSW
            have PSW := hide PSW
            go_wp2_with (go_at_call 150; (with_reducible refine PSW.out.mono ?_); rintro e w9 ⟨rfl, ho9, hg9⟩; have HO9 := hide ho9; have HB9 := hide ((HB.out.fut (w' := w8)).grown hg9 (HO8.out.out.ne_ (HB.out.fut (w' := w8)) (by decide))); have HON9 := hide ((HON.out.trans (Only.below (fut wo w8))).trans (Only.grown hg9)); have hs9 : Step w0 w9 := ⟨(fut w0 w8).trans (below_of_grown HO8.out.out hg9 (fut w0 w8).size)⟩; clear ho9 hg9)
            go_roundw
            case rel => exact ⟨j2, swp ls i j2 x y2, by omega, by go_num, by show _ = _; rw [swp_len]; exact HLN.out, (swp_perm HX.out HJ.out).trans HPE.out, fun k hk => by rw [swp_get HX.out HJ.out, if_neg (by omega), if_neg (by omega)]; exact HTL.out k hk, HNX.out, HO9.out, HB9.out, HON9.out, hs9⟩
            case measure => simp [intOf]; omega
        | false =>
          rw [h21] at PL1
          have HJ := hide HY1.out
          have HCJ : Child i j1 := by unfold Child; omega
          have HMJ : Hid (∀ c, c < n → Child i c → LeAt ltA ls j1 c) := fun c hc hch a b ha hb => by
            rw [HY1.out] at ha; injection ha with ha; subst ha
            rcases (show c = j1 ∨ c = j2 by unfold Child at hch; omega) with e | e
            · rw [e, HY1.out] at hb; injection hb with hb; subst hb
              exact weakA.irr y1
            · rw [e, HY2.out] at hb; injection hb with hb; subst hb
              exact h21
          have PL1 := hide PL1
          clear h21
          go_upto_region 8 with (go_at_call 149; (with_reducible refine PL1.out.mono ?_); rintro e w5 ⟨rfl, hs5⟩; have b5_ := HB.out.fut (w' := w5); have p5 := At.z1 b5_.at0; have l5 := b5_.lt; clear b5_)
          have HMIN : Hid (∀ c, c < n → Child i c → LeAt ltA ls j1 c) := HMJ.out
          have ml6 := m_less gp N c A w5 p5
          have PL2 := hide (fun w' [Fut wo w'] => pless2_any ls A c j1 i y1 x w' HRI.out HJ.out HX.out)
          rw [HLN.out] at PL2
          cases hji : lessL y1.vs x.vs with
          | false =>
            have HEND := hide (HHB.out.stop (fun c hc hch a b ha hb => by
              rw [HX.out] at ha; injection ha with ha; subst ha
              exact weakA.tr x y1 b hji (HMIN.out c hc hch y1 b HJ.out hb)))
            rw [hji] at PL2
            have PL3 := hide PL2.out
            clear PL2 hji
            go_wp2_with (go_at_call 149; (with_reducible refine (PL3.out _).mono ?_); rintro e w8 ⟨rfl, hs8⟩)
            go_ret
            exact ⟨isB _, ls, HLN.out, HPE.out, HTL.out, HEND.out, HO.out.fut, HB.out.fut, HON.out.trans (Only.below (fut wo _)), Step.of⟩
          | true =>
            have HNX := hide (HHB.out.swap weakA HX.out HJ.out HCJ (by omega) HMIN.out hji)
            rw [hji] at PL2
            have PL3 := hide PL2.out
            clear PL2 hji
            go_upto_region 9 with (go_at_call 149; (with_reducible refine (PL3.out _).mono ?_); rintro e w8 ⟨rfl, hs8⟩; have b8_ := HB.out.fut (w' := w8); have p8 := At.z1 b8_.at0; have ms8 := m_swap gp N c A w8 p8; have l8 := b8_.lt; clear b8_)
            have HO8 := hide (OwnR.fut (w' := w8) HO.out)
            have PSW := pswap_any ls A c i j1 x y1 w8 (by rw [HLN.out]; exact HO8.out) HX.out HJ.out
            rw [HLN.out] at PSW
            have PSW := hide PSW
            go_wp2_with (go_at_call 150; (with_reducible refine PSW.out.mono ?_); rintro e w9 ⟨rfl, ho9, hg9⟩; have HO9 := hide ho9; have HB9 := hide ((HB.out.fut (w' := w8)).grown hg9 (HO8.out.out.ne_ (HB.out.fut (w' := w8)) (by decide))); have HON9 := hide ((HON.out.trans (Only.below (fut wo w8))).trans (Only.grown hg9)); have hs9 : Step w0 w9 := ⟨(fut w0 w8).trans (below_of_grown HO8.out.out hg9 (fut w0 w8).size)⟩; clear ho9 hg9)
            go_roundw
            case rel => exact ⟨j1, swp ls i j1 x y1, by omega, by go_num, by show _ = _; rw [swp_len]; exact HLN.out, (swp_perm HX.out HJ.out).trans HPE.out, fun k hk => by rw [swp_get HX.out HJ.out, if_neg (by omega), if_neg (by omega)]; exact HTL.out k hk, HNX.out, HO9.out, HB9.out, HON9.out, hs9⟩
            case measure => simp [intOf]; omega
      · have h2' : ¬ (j2 : Int) < (n : Int) := by omega
        have HJ := hide HY1.out
        have HCJ : Child i j1 := by unfold Child; omega
        have HMJ : Hid (∀ c, c < n → Child i c → LeAt ltA ls j1 c) := fun c hc hch a b ha hb => by
          rw [HY1.out] at ha; injection ha with ha; subst ha
          rcases (show c = j1 by unfold Child at hch; omega) with e
          rw [e, HY1.out] at hb; injection hb with hb; subst hb
          exact weakA.irr y1
        go_upto_region 8 with (fail)
        have HMIN : Hid (∀ c, c < n → Child i c → LeAt ltA ls j1 c) := HMJ.out
        have ml6 := m_less gp N c A wo p0
        have PL2 := hide (fun w' [Fut wo w'] => pless2_any ls A c j1 i y1 x w' HRI.out HJ.out HX.out)
        rw [HLN.out] at PL2
        cases hji : lessL y1.vs x.vs with
        | false =>
          have HEND := hide (HHB.out.stop (fun c hc hch a b ha hb => by
            rw [HX.out] at ha; injection ha with ha; subst ha
            exact weakA.tr x y1 b hji (HMIN.out c hc hch y1 b HJ.out hb)))
          rw [hji] at PL2
          have PL3 := hide PL2.out
          clear PL2 hji
          go_wp2_with (go_at_call 149; (with_reducible refine (PL3.out _).mono ?_); rintro e w8 ⟨rfl, hs8⟩)
          go_ret
          exact ⟨isB _, ls, HLN.out, HPE.out, HTL.out, HEND.out, HO.out.fut, HB.out.fut, HON.out.trans (Only.below (fut wo _)), Step.of⟩
        | true =>
          have HNX := hide (HHB.out.swap weakA HX.out HJ.out HCJ (by omega) HMIN.out hji)
          rw [hji] at PL2
          have PL3 := hide PL2.out
          clear PL2 hji
          go_upto_region 9 with (go_at_call 149; (with_reducible refine (PL3.out _).mono ?_); rintro e w8 ⟨rfl, hs8⟩; have b8_ := HB.out.fut (w' := w8); have p8 := At.z1 b8_.at0; have ms8 := m_swap gp N c A w8 p8; have l8 := b8_.lt; clear b8_)
          have HO8 := hide (OwnR.fut (w' := w8) HO.out)
          have PSW := pswap_any ls A c i j1 x y1 w8 (by rw [HLN.out]; exact HO8.out) HX.out HJ.out
          rw [HLN.out] at PSW
          have PSW := hide PSW
          go_wp2_with (go_at_call 150; (with_reducible refine PSW.out.mono ?_); rintro e w9 ⟨rfl, ho9, hg9⟩; have HO9 := hide ho9; have HB9 := hide ((HB.out.fut (w' := w8)).grown hg9 (HO8.out.out.ne_ (HB.out.fut (w' := w8)) (by decide))); have HON9 := hide ((HON.out.trans (Only.below (fut wo w8))).trans (Only.grown hg9)); have hs9 : Step w0 w9 := ⟨(fut w0 w8).trans (below_of_grown HO8.out.out hg9 (fut w0 w8).size)⟩; clear ho9 hg9)
          go_roundw
          case rel => exact ⟨j1, swp ls i j1 x y1, by omega, by go_num, by show _ = _; rw [swp_len]; exact HLN.out, (swp_perm HX.out HJ.out).trans HPE.out, fun k hk => by rw [swp_get HX.out HJ.out, if_neg (by omega), if_neg (by omega)]; exact HTL.out k hk, HNX.out, HO9.out, HB9.out, HON9.out, hs9⟩
          case measure => simp [intOf]; omega
    · have h1' : ¬ (j1 : Int) < (n : Int) := by omega
      have HEND := hide (HHB.out.stop (fun c hc hch => absurd hch (by unfold Child; omega)))
      go_wp2_with fail
      go_ret
      exact ⟨isB _, ls, HLN.out, HPE.out, HTL.out, HEND.out, HO.out.fut, HB.out.fut, HON.out.trans (Only.below (fut wo _)), Step.of⟩
end Go.Proofs.YtafgfehjdbomfaaDoor
