/-
  The law JsonPrints, if no text is too long.
-/
import Derived.Test.YtoibfefalflooaaDoorJ6
import Derived.Test.YtoibfefalflooaaDoorE7
namespace Go.Proofs.YtoibfefalflooaaDoor
open Go.RowKit

set_option maxRecDepth 100000 in
set_option maxHeartbeats 16000000 in
theorem jprints_five (b1 : Bool) (n1 : Int) (s1 : ByteArray) (A1 : Option Addr) (nl1 c1 : Nat) (l : List T) (AK1 : Option Addr) (nk1 cK1 : Nat) (ks : List ByteArray) (hl : l.length = nl1) (hkl : ks.length = nk1) (key : ByteArray) (w : World) (htb : Tab w) (hrd : RdT w (.mk 5 b1 n1 s1 A1 c1 l AK1 cK1 ks)) (hsm : SmT (.mk 5 b1 n1 s1 A1 c1 l AK1 cK1 ks)) :
    Calls Tryd.prog 4 #[.agg #[.int .i64 5, .bool b1, .int .i64 n1, .string s1, .slice A1 nl1 c1, .slice AK1 nk1 cK1], .string key] w fun e w' => e = .returned (.bool true) ∧ Step w w' := by
  have HTB := hide htb
  have AW : Hid (∀ w' (hf : Fut w w'), Calls Tryd.prog 14 #[] w' fun e w'' => e = .returned (.bool true) ∧ Step w' w'') := fun w' hf => awake3_any w' (Tab.fut htb)
  have HRD := hide hrd
  have NM := hide num_any
  have hrd2 := hrd
  rw [RdT] at hrd2
  obtain ⟨hA, hAK, ⟨hb1, hb2⟩, _, _, _, hrs⟩ := hrd2
  have HA := hide hA; have HAK := hide hAK; have HRS := hide hrs; have HL := hide hl; have HKL := hide hkl
  rw [hl] at hb1
  rw [hkl] at hb2
  obtain ⟨J0, hJ0⟩ : ∃ J0, T.j (.mk 5 b1 n1 s1 A1 c1 l AK1 cK1 ks) = J0 := ⟨_, rfl⟩
  have HJ : Hid (Rdd w J0 5 b1 n1 s1 A1 nl1 c1 AK1 nk1 cK1) := ⟨l, ks, hl, hkl, hJ0, hrd⟩
  obtain ⟨P1, hP1⟩ : ∃ P, (printP J0).1 = P := ⟨_, rfl⟩
  obtain ⟨P2, hP2⟩ : ∃ P, (printP J0).2 = P := ⟨_, rfl⟩
  obtain ⟨r1, hr1⟩ : ∃ r, (getP J0 key).1 = r := ⟨_, rfl⟩
  obtain ⟨r2, hr2⟩ : ∃ r, (getP J0 key).2 = r := ⟨_, rfl⟩
  have PP : Hid (∀ w' (hf : Fut w w'), Calls Tryd.prog 15 #[.agg #[.int .i64 5, .bool b1, .int .i64 n1, .string s1, .slice A1 nl1 c1, .slice AK1 nk1 cK1]] w' fun e w'' => e = .returned (.tuple #[.string P1, .int .i64 P2]) ∧ Step w' w'') := fun w' hf => by
    have h := print_rdd w HJ.out w' (Tab.fut (w := w) HTB.out)
    rw [hP1, hP2] at h
    exact h
  have RP : Hid (∀ w' (hf : Fut w w'), Calls Tryd.prog 16 #[.agg #[.int .i64 5, .bool b1, .int .i64 n1, .string s1, .slice A1 nl1 c1, .slice AK1 nk1 cK1]] w' fun e w'' => e = .returned (.tuple #[.string P1, .int .i64 P2]) ∧ Step w' w'') := fun w' hf => by
    have h := rprint_any (.mk 5 b1 n1 s1 A1 c1 l AK1 cK1 ks) w' (RdT.fut hrd) hsm
    rw [T.cells, hl, hkl, hJ0, hP1, hP2] at h
    exact h
  have GT : Hid (∀ w' (hf : Fut w w'), Calls Tryd.prog 17 #[.agg #[.int .i64 5, .bool b1, .int .i64 n1, .string s1, .slice A1 nl1 c1, .slice AK1 nk1 cK1], .string key] w' fun e w'' => (∃ (k2 : Int) (b2 : Bool) (n2 : Int) (s2 : ByteArray) (A2 : Option Addr) (nl2 c2 : Nat) (AK2 : Option Addr) (nk2 cK2 : Nat), e = .returned (.tuple #[.agg #[.int .i64 k2, .bool b2, .int .i64 n2, .string s2, .slice A2 nl2 c2, .slice AK2 nk2 cK2], .bool r2]) ∧ Rdd w'' r1 k2 b2 n2 s2 A2 nl2 c2 AK2 nk2 cK2) ∧ Step w' w'') := fun w' hf => by
    have h := get_rdd w HJ.out key w'
    rw [hr1, hr2] at h
    exact h
  have HG : Hid (getF ks (T.js l) key = (r1, r2)) := by
    show _ = _
    rw [← hr1, ← hr2, ← hJ0, T.j, getP, if_pos (show (J.mk 5 b1 n1 s1 (T.js l) ks).k = 5 from rfl)]; rfl
  clear hA hAK hrs hrd hsm htb hJ0 hP1 hP2 hr1 hr2 hl hkl
  go_enter Tryd.func4, Tryd.ntmps4
  obtain ⟨W1, hW1⟩ : ∃ W : World, W = w.alloc (.cells #[.int .i64 5, .bool b1, .int .i64 n1, .string s1, .slice A1 nl1 c1, .slice AK1 nk1 cK1] 25) := ⟨_, rfl⟩
  have HB1 : Hid (Blk W1 w.heap.size 25 [.int .i64 5, .bool b1, .int .i64 n1, .string s1, .slice A1 nl1 c1, .slice AK1 nk1 cK1]) := by rw [hW1]; exact Blk.new w _ 25
  have SW1 : Step w W1 := by rw [hW1]; exact Step.of
  go_upto_region 1 with fail
  rw [← hW1]
  clear hW1
  obtain ⟨d0, d1, d2, d3, d4, d5⟩ := At.z6 (HB1.out.fut (w' := W1)).at0; have ld := (HB1.out.fut (w' := W1)).lt
  go_upto_region 2 with (go_at_call 15; (with_reducible refine (PP.out _ inferInstance).mono ?_); rintro e w2 ⟨rfl, hs2⟩; clear d0 d1 d2 d3 d4 d5 ld; obtain ⟨d0, d1, d2, d3, d4, d5⟩ := At.z6 (HB1.out.fut (w' := w2)).at0; have ld := (HB1.out.fut (w' := w2)).lt)
  go_upto_region 3 with (go_at_call 16; (with_reducible refine (RP.out _ inferInstance).mono ?_); rintro e w3 ⟨rfl, hs3⟩; clear d0 d1 d2 d3 d4 d5 ld; obtain ⟨d0, d1, d2, d3, d4, d5⟩ := At.z6 (HB1.out.fut (w' := w3)).at0; have ld := (HB1.out.fut (w' := w3)).lt)
  go_upto_region 4 with (go_at_call 17; (with_reducible refine (GT.out _ inferInstance).mono ?_); rintro e w4 ⟨⟨k2, b2, n2, s2, A2, nl2, c2, AK2, nk2, cK2, rfl, hr2⟩, hs4⟩; have HR2 := hide hr2; clear hr2; clear d0 d1 d2 d3 d4 d5 ld)
  obtain ⟨W2, hW2⟩ : ∃ W : World, W = w4.alloc (.cells #[.int .i64 k2, .bool b2, .int .i64 n2, .string s2, .slice A2 nl2 c2, .slice AK2 nk2 cK2] 25) := ⟨_, rfl⟩
  have HB2 : Hid (Blk W2 w4.heap.size 25 [.int .i64 k2, .bool b2, .int .i64 n2, .string s2, .slice A2 nl2 c2, .slice AK2 nk2 cK2]) := by rw [hW2]; exact Blk.new w4 _ 25
  have SW2 : Step w4 W2 := by rw [hW2]; exact Step.of
  rw [← hW2]
  clear hW2
  obtain ⟨W3, hW3⟩ : ∃ W : World, W = W2.alloc (.cells #[.int .i64 0, .bool false, .int .i64 0, .string ⟨#[]⟩, .slice none 0 0, .slice none 0 0] 25) := ⟨_, rfl⟩
  have HZ : Hid (Blk W3 W2.heap.size 25 zeroC) := by rw [hW3]; exact Blk.new W2 zeroC 25
  have SW3 : Step W2 W3 := by rw [hW3]; exact Step.of
  go_upto_region 6 with fail
  rw [← hW3]
  clear hW3
  obtain ⟨gz, hgz⟩ : ∃ g, W2.heap.size = g := ⟨_, rfl⟩
  rw [hgz] at HZ
  rw [hgz]
  have hgw : W2.heap.size ≤ gz := Nat.le_of_eq hgz
  clear hgz
  go_wp2_with fail
  go_loopw [13, 11] (fun v13 v11 wr => ∃ (i : Nat) (so : Bool), i ≤ nk1 ∧ v13 = .int .i64 i ∧ v11 = .bool so ∧ Step W2 wr ∧ Hid ((so = false ∧ Blk wr gz 25 zeroC ∧ getF (ks.drop i) ((T.js l).drop i) key = (r1, r2)) ∨ (so = true ∧ ∃ (k3 : Int) (b3 : Bool) (n3 : Int) (s3 : ByteArray) (A3 : Option Addr) (nl3 c3 : Nat) (AK3 : Option Addr) (nk3 cK3 : Nat), Blk wr gz 25 [.int .i64 k3, .bool b3, .int .i64 n3, .string s3, .slice A3 nl3 c3, .slice AK3 nk3 cK3] ∧ Rdd w r1 k3 b3 n3 s3 A3 nl3 c3 AK3 nk3 cK3 ∧ r2 = true))) (fun v13 _ _ => nk1 - (intOf v13).toNat)
  case atStart => exact ⟨0, false, Nat.zero_le _, rfl, rfl, SW3, .inl ⟨rfl, HZ.out, HG.out⟩⟩
  case round =>
    obtain ⟨i, so, hi, rfl, rfl, hsr, HX⟩ := hrel
    obtain ⟨wo, rfl⟩ : ∃ x : World, x = wr := ⟨_, rfl⟩
    clear HZ
    have HE : Hid (¬ (i < nk1 ∧ i < nl1 ∧ so = false) → ∃ (k3 : Int) (b3 : Bool) (n3 : Int) (s3 : ByteArray) (A3 : Option Addr) (nl3 c3 : Nat) (AK3 : Option Addr) (nk3 cK3 : Nat), Blk wo gz 25 [.int .i64 k3, .bool b3, .int .i64 n3, .string s3, .slice A3 nl3 c3, .slice AK3 nk3 cK3] ∧ Rdd w r1 k3 b3 n3 s3 A3 nl3 c3 AK3 nk3 cK3 ∧ so = r2) := fun hno => by
      rcases HX.out with ⟨h1, h2, h3⟩ | ⟨h1, k3, b3, n3, s3, A3, nl3, c3, AK3, nk3, cK3, h2, h3, h4⟩
      · have hz : getF (ks.drop i) ((T.js l).drop i) key = (J.zero, false) := by
          by_cases hik : i < nk1
          · have hil : ¬ i < nl1 := fun h => hno ⟨hik, h, h1⟩
            rw [show (T.js l).drop i = [] from List.drop_eq_nil_of_le (by rw [js_map, List.length_map, HL.out]; omega), getF_none]
          · rw [show ks.drop i = [] from List.drop_eq_nil_of_le (by rw [HKL.out]; omega), getF_nil]
        rw [hz] at h3
        injection h3 with h4 h5
        subst h4
        subst h5
        exact ⟨0, false, 0, ⟨#[]⟩, none, 0, 0, none, 0, 0, h2, Rdd.zero w, h1⟩
      · exact ⟨k3, b3, n3, s3, A3, nl3, c3, AK3, nk3, cK3, h2, h3, h1.trans h4.symm⟩
    obtain ⟨d0, d1, d2, d3, d4, d5⟩ := At.z6 (HB1.out.fut (w' := wo)).at0; have ld := (HB1.out.fut (w' := wo)).lt
    by_cases hlt : i < nk1
    · have hlti : (i : Int) < (nk1 : Int) := by omega
      by_cases hll : i < nl1
      · have hlli : (i : Int) < (nl1 : Int) := by omega
        cases so with
        | true =>
          have HF := hide (HE.out (fun h => by simp at h))
          clear HX HE
          obtain ⟨k3, b3, n3, s3, A3, nl3, c3, AK3, nk3, cK3, hz3, hr3, rfl⟩ := HF.out
          have HR3 := hide hr3
          have HZ3 := hide hz3
          have SJ := hide (fun (w' : World) (h1 : Fut wo w') => (by
            have hst3 : Step wo w' := ⟨h1.below⟩
            exact same_rdd (j := r1) w4 w HR2.out HR3.out w' : Calls Tryd.prog 12 #[.agg #[.int .i64 k2, .bool b2, .int .i64 n2, .string s2, .slice A2 nl2 c2, .slice AK2 nk2 cK2], .agg #[.int .i64 k3, .bool b3, .int .i64 n3, .string s3, .slice A3 nl3 c3, .slice AK3 nk3 cK3]] w' fun e w'' => e = .returned (.bool true) ∧ Step w' w''))
          obtain ⟨y0, y1, y2, y3, y4, y5⟩ := At.z6 (HB2.out.fut (w' := wo)).at0
          have ly := (HB2.out.fut (w' := wo)).lt
          obtain ⟨z0, z1, z2, z3, z4, z5⟩ := At.z6 hz3.at0
          have lz := hz3.lt
          clear hz3 hr3 HF
          go_wp2_with (first | (go_at_call 13; (with_reducible refine (NM.out _ _).mono ?_); rintro e wn ⟨rfl, rfl⟩) | (go_at_call 12; (with_reducible refine (SJ.out _ inferInstance).mono ?_); rintro e wt ⟨rfl, hst⟩; clear y0 y1 y2 y3 y4 y5 ly z0 z1 z2 z3 z4 z5 lz) | (go_at_call 14; (with_reducible refine (AW.out _ inferInstance).mono ?_); rintro e wa ⟨rfl, hsa⟩))
          go_ret
          exact ⟨rfl, Step.of⟩
        | false =>
          obtain ⟨hz, HXG⟩ : Blk wo gz 25 zeroC ∧ Hid (getF (ks.drop i) ((T.js l).drop i) key = (r1, r2)) := by
            rcases HX.out with ⟨h1, h2, h3⟩ | ⟨h1, _⟩
            · exact ⟨h2, h3⟩
            · cases h1
          have HZ := hide hz
          obtain ⟨z0, z1, z2, z3, z4, z5⟩ := At.z6 hz.at0
          have lz := hz.lt
          have fz := hz.free
          have hi0 : (0 : Int) ≤ (i : Int) := by omega
          obtain ⟨bK, oK, q, rfl, hbK, hq, hcell⟩ := str_at HAK.out (w := wo) inferInstance (k := i) (by rw [HKL.out]; exact hlt)
          obtain ⟨hkk, hqe⟩ := List.getElem?_eq_some_iff.1 hq
          have hdk : ks.drop i = q :: ks.drop (i + 1) := by rw [List.drop_eq_getElem_cons hkk, hqe]
          obtain ⟨bL, oL, rfl, hbL, hcL⟩ := HA.out.elem (w' := wo) inferInstance (k := i) (by rw [List.length_map, HL.out]; exact hll)
          obtain ⟨tk, htk⟩ : ∃ tk, l[i]? = some tk := ⟨_, List.getElem?_eq_getElem (by rw [HL.out]; exact hll)⟩
          have hdj : (T.js l).drop i = tk.j :: (T.js l).drop (i + 1) := by
            obtain ⟨h1, h2⟩ := List.getElem?_eq_some_iff.1 htk
            rw [js_map, List.drop_eq_getElem_cons (by rw [List.length_map]; exact h1), List.getElem_map, h2]
          rw [hdk, hdj] at HXG
          clear hdk hdj hq hqe hkk HX HE hz
          by_cases hqk : q = key
          · subst hqk
            have hat := hcL i _ (by rw [List.getElem?_map, htk]; rfl)
            have hrt := HRS.out.get htk
            obtain ⟨k3, b3, n3, s3, A3, nl3, c3, AK3, nk3, cK3, hcel, hrd3⟩ := Rdd.of hrt rfl
            rw [hcel] at hat
            obtain ⟨x0, x1, x2, x3, x4, x5⟩ := At.o6 hat
            have HRT : Hid ((tk.j, true) = (r1, r2)) := by show _ = _; rw [← HXG.out, getF_yes rfl]
            have HR3 := hide hrd3
            clear hcL htk hat hrt hrd3 hcel HXG
            go_wp2_with fail
            clear d0 d1 d2 d3 d4 d5 z0 z1 z2 z3 z4 z5 x0 x1 x2 x3 x4 x5
            have hF := set6_blk HZ.out (.int .i64 k3) (.bool b3) (.int .i64 n3) (.string s3) (.slice A3 nl3 c3) (.slice AK3 nk3 cK3)
            have b6 := set6_below (w := wo) (n := W2.heap.size) (b := gz) hgw (.int .i64 k3) (.bool b3) (.int .i64 n3) (.string s3) (.slice A3 nl3 c3) (.slice AK3 nk3 cK3)
            obtain ⟨Y, hY⟩ : ∃ Y : World, Y = set6 wo gz (.int .i64 k3) (.bool b3) (.int .i64 n3) (.string s3) (.slice A3 nl3 c3) (.slice AK3 nk3 cK3) := ⟨_, rfl⟩
            rw [← hY] at hF b6
            unfold set6 at hY
            rw [← hY]
            clear hY
            go_round
            case rel =>
              refine ⟨i + 1, true, by omega, by go_num, rfl, ⟨hsr.below.trans b6⟩, .inr ⟨rfl, k3, b3, n3, s3, A3, nl3, c3, AK3, nk3, cK3, hF, ?_, ?_⟩⟩
              · have := HRT.out
                injection this with h1 h2
                rw [← h1]
                exact HR3.out
              · have := HRT.out
                injection this with h1 h2
                exact h2.symm
            case measure => simp [intOf]; omega
          · have hqt : (q.toList == key.toList) = false := beq_eq_false_iff_ne.2 (fun e => hqk (toList_inj e))
            have HXN : Hid (getF (ks.drop (i + 1)) ((T.js l).drop (i + 1)) key = (r1, r2)) := by
              show _ = _
              rw [← HXG.out, getF_no hqk]
            clear HXG hcL htk
            go_wp2_with fail
            go_round
            case rel => exact ⟨i + 1, false, by omega, by go_num, rfl, hsr, .inl ⟨rfl, HZ.out, HXN.out⟩⟩
            case measure => simp [intOf]; omega
      · have hlli : ¬ (i : Int) < (nl1 : Int) := by omega
        have HF := hide (HE.out (fun h => hll h.2.1))
        clear HX HE
        obtain ⟨k3, b3, n3, s3, A3, nl3, c3, AK3, nk3, cK3, hz3, hr3, rfl⟩ := HF.out
        have HR3 := hide hr3
        have HZ3 := hide hz3
        have SJ := hide (fun (w' : World) (h1 : Fut wo w') => (by
          have hst3 : Step wo w' := ⟨h1.below⟩
          exact same_rdd (j := r1) w4 w HR2.out HR3.out w' : Calls Tryd.prog 12 #[.agg #[.int .i64 k2, .bool b2, .int .i64 n2, .string s2, .slice A2 nl2 c2, .slice AK2 nk2 cK2], .agg #[.int .i64 k3, .bool b3, .int .i64 n3, .string s3, .slice A3 nl3 c3, .slice AK3 nk3 cK3]] w' fun e w'' => e = .returned (.bool true) ∧ Step w' w''))
        obtain ⟨y0, y1, y2, y3, y4, y5⟩ := At.z6 (HB2.out.fut (w' := wo)).at0
        have ly := (HB2.out.fut (w' := wo)).lt
        obtain ⟨z0, z1, z2, z3, z4, z5⟩ := At.z6 hz3.at0
        have lz := hz3.lt
        clear hz3 hr3 HF
        go_wp2_with (first | (go_at_call 13; (with_reducible refine (NM.out _ _).mono ?_); rintro e wn ⟨rfl, rfl⟩) | (go_at_call 12; (with_reducible refine (SJ.out _ inferInstance).mono ?_); rintro e wt ⟨rfl, hst⟩; clear y0 y1 y2 y3 y4 y5 ly z0 z1 z2 z3 z4 z5 lz) | (go_at_call 14; (with_reducible refine (AW.out _ inferInstance).mono ?_); rintro e wa ⟨rfl, hsa⟩))
        go_ret
        exact ⟨rfl, Step.of⟩
    · have hlti : ¬ (i : Int) < (nk1 : Int) := by omega
      have HF := hide (HE.out (fun h => hlt h.1))
      clear HX HE
      obtain ⟨k3, b3, n3, s3, A3, nl3, c3, AK3, nk3, cK3, hz3, hr3, rfl⟩ := HF.out
      have HR3 := hide hr3
      have HZ3 := hide hz3
      have SJ := hide (fun (w' : World) (h1 : Fut wo w') => (by
        have hst3 : Step wo w' := ⟨h1.below⟩
        exact same_rdd (j := r1) w4 w HR2.out HR3.out w' : Calls Tryd.prog 12 #[.agg #[.int .i64 k2, .bool b2, .int .i64 n2, .string s2, .slice A2 nl2 c2, .slice AK2 nk2 cK2], .agg #[.int .i64 k3, .bool b3, .int .i64 n3, .string s3, .slice A3 nl3 c3, .slice AK3 nk3 cK3]] w' fun e w'' => e = .returned (.bool true) ∧ Step w' w''))
      obtain ⟨y0, y1, y2, y3, y4, y5⟩ := At.z6 (HB2.out.fut (w' := wo)).at0
      have ly := (HB2.out.fut (w' := wo)).lt
      obtain ⟨z0, z1, z2, z3, z4, z5⟩ := At.z6 hz3.at0
      have lz := hz3.lt
      clear hz3 hr3 HF
      go_wp2_with (first | (go_at_call 13; (with_reducible refine (NM.out _ _).mono ?_); rintro e wn ⟨rfl, rfl⟩) | (go_at_call 12; (with_reducible refine (SJ.out _ inferInstance).mono ?_); rintro e wt ⟨rfl, hst⟩; clear y0 y1 y2 y3 y4 y5 ly z0 z1 z2 z3 z4 z5 lz) | (go_at_call 14; (with_reducible refine (AW.out _ inferInstance).mono ?_); rintro e wa ⟨rfl, hsa⟩))
      go_ret
      exact ⟨rfl, Step.of⟩
set_option maxRecDepth 100000 in
set_option maxHeartbeats 16000000 in
theorem jprints_not (k1 : Int) (b1 : Bool) (n1 : Int) (s1 : ByteArray) (A1 : Option Addr) (nl1 c1 : Nat) (l : List T) (AK1 : Option Addr) (nk1 cK1 : Nat) (ks : List ByteArray) (hl : l.length = nl1) (hkl : ks.length = nk1) (key : ByteArray) (w : World) (htb : Tab w) (hrd : RdT w (.mk k1 b1 n1 s1 A1 c1 l AK1 cK1 ks)) (hsm : SmT (.mk k1 b1 n1 s1 A1 c1 l AK1 cK1 ks)) (hk : k1 ≠ 5) :
    Calls Tryd.prog 4 #[.agg #[.int .i64 k1, .bool b1, .int .i64 n1, .string s1, .slice A1 nl1 c1, .slice AK1 nk1 cK1], .string key] w fun e w' => e = .returned (.bool true) ∧ Step w w' := by
  have HTB := hide htb
  have AW : Hid (∀ w' (hf : Fut w w'), Calls Tryd.prog 14 #[] w' fun e w'' => e = .returned (.bool true) ∧ Step w' w'') := fun w' hf => awake3_any w' (Tab.fut htb)
  have HRD := hide hrd
  have NM := hide num_any
  have hrd2 := hrd
  rw [RdT] at hrd2
  obtain ⟨hA, hAK, ⟨hb1, hb2⟩, _, _, _, hrs⟩ := hrd2
  have HA := hide hA; have HAK := hide hAK; have HRS := hide hrs; have HL := hide hl; have HKL := hide hkl
  rw [hl] at hb1
  rw [hkl] at hb2
  obtain ⟨J0, hJ0⟩ : ∃ J0, T.j (.mk k1 b1 n1 s1 A1 c1 l AK1 cK1 ks) = J0 := ⟨_, rfl⟩
  have HJ : Hid (Rdd w J0 k1 b1 n1 s1 A1 nl1 c1 AK1 nk1 cK1) := ⟨l, ks, hl, hkl, hJ0, hrd⟩
  obtain ⟨P1, hP1⟩ : ∃ P, (printP J0).1 = P := ⟨_, rfl⟩
  obtain ⟨P2, hP2⟩ : ∃ P, (printP J0).2 = P := ⟨_, rfl⟩
  obtain ⟨r1, hr1⟩ : ∃ r, (getP J0 key).1 = r := ⟨_, rfl⟩
  obtain ⟨r2, hr2⟩ : ∃ r, (getP J0 key).2 = r := ⟨_, rfl⟩
  have PP : Hid (∀ w' (hf : Fut w w'), Calls Tryd.prog 15 #[.agg #[.int .i64 k1, .bool b1, .int .i64 n1, .string s1, .slice A1 nl1 c1, .slice AK1 nk1 cK1]] w' fun e w'' => e = .returned (.tuple #[.string P1, .int .i64 P2]) ∧ Step w' w'') := fun w' hf => by
    have h := print_rdd w HJ.out w' (Tab.fut (w := w) HTB.out)
    rw [hP1, hP2] at h
    exact h
  have RP : Hid (∀ w' (hf : Fut w w'), Calls Tryd.prog 16 #[.agg #[.int .i64 k1, .bool b1, .int .i64 n1, .string s1, .slice A1 nl1 c1, .slice AK1 nk1 cK1]] w' fun e w'' => e = .returned (.tuple #[.string P1, .int .i64 P2]) ∧ Step w' w'') := fun w' hf => by
    have h := rprint_any (.mk k1 b1 n1 s1 A1 c1 l AK1 cK1 ks) w' (RdT.fut hrd) hsm
    rw [T.cells, hl, hkl, hJ0, hP1, hP2] at h
    exact h
  have GT : Hid (∀ w' (hf : Fut w w'), Calls Tryd.prog 17 #[.agg #[.int .i64 k1, .bool b1, .int .i64 n1, .string s1, .slice A1 nl1 c1, .slice AK1 nk1 cK1], .string key] w' fun e w'' => (∃ (k2 : Int) (b2 : Bool) (n2 : Int) (s2 : ByteArray) (A2 : Option Addr) (nl2 c2 : Nat) (AK2 : Option Addr) (nk2 cK2 : Nat), e = .returned (.tuple #[.agg #[.int .i64 k2, .bool b2, .int .i64 n2, .string s2, .slice A2 nl2 c2, .slice AK2 nk2 cK2], .bool r2]) ∧ Rdd w'' r1 k2 b2 n2 s2 A2 nl2 c2 AK2 nk2 cK2) ∧ Step w' w'') := fun w' hf => by
    have h := get_rdd w HJ.out key w'
    rw [hr1, hr2] at h
    exact h
  have HG : Hid ((J.zero, false) = (r1, r2)) := by
    show _ = _
    rw [← hr1, ← hr2, ← hJ0, T.j, getP, if_neg (show ¬ (J.mk k1 b1 n1 s1 (T.js l) ks).k = 5 from hk)]
  clear hA hAK hrs hrd hsm htb hJ0 hP1 hP2 hr1 hr2 hl hkl
  go_enter Tryd.func4, Tryd.ntmps4
  obtain ⟨W1, hW1⟩ : ∃ W : World, W = w.alloc (.cells #[.int .i64 k1, .bool b1, .int .i64 n1, .string s1, .slice A1 nl1 c1, .slice AK1 nk1 cK1] 25) := ⟨_, rfl⟩
  have HB1 : Hid (Blk W1 w.heap.size 25 [.int .i64 k1, .bool b1, .int .i64 n1, .string s1, .slice A1 nl1 c1, .slice AK1 nk1 cK1]) := by rw [hW1]; exact Blk.new w _ 25
  have SW1 : Step w W1 := by rw [hW1]; exact Step.of
  go_upto_region 1 with fail
  rw [← hW1]
  clear hW1
  obtain ⟨d0, d1, d2, d3, d4, d5⟩ := At.z6 (HB1.out.fut (w' := W1)).at0; have ld := (HB1.out.fut (w' := W1)).lt
  go_upto_region 2 with (go_at_call 15; (with_reducible refine (PP.out _ inferInstance).mono ?_); rintro e w2 ⟨rfl, hs2⟩; clear d0 d1 d2 d3 d4 d5 ld; obtain ⟨d0, d1, d2, d3, d4, d5⟩ := At.z6 (HB1.out.fut (w' := w2)).at0; have ld := (HB1.out.fut (w' := w2)).lt)
  go_upto_region 3 with (go_at_call 16; (with_reducible refine (RP.out _ inferInstance).mono ?_); rintro e w3 ⟨rfl, hs3⟩; clear d0 d1 d2 d3 d4 d5 ld; obtain ⟨d0, d1, d2, d3, d4, d5⟩ := At.z6 (HB1.out.fut (w' := w3)).at0; have ld := (HB1.out.fut (w' := w3)).lt)
  go_upto_region 4 with (go_at_call 17; (with_reducible refine (GT.out _ inferInstance).mono ?_); rintro e w4 ⟨⟨k2, b2, n2, s2, A2, nl2, c2, AK2, nk2, cK2, rfl, hr2⟩, hs4⟩; have HR2 := hide hr2; clear hr2; clear d0 d1 d2 d3 d4 d5 ld)
  obtain ⟨W2, hW2⟩ : ∃ W : World, W = w4.alloc (.cells #[.int .i64 k2, .bool b2, .int .i64 n2, .string s2, .slice A2 nl2 c2, .slice AK2 nk2 cK2] 25) := ⟨_, rfl⟩
  have HB2 : Hid (Blk W2 w4.heap.size 25 [.int .i64 k2, .bool b2, .int .i64 n2, .string s2, .slice A2 nl2 c2, .slice AK2 nk2 cK2]) := by rw [hW2]; exact Blk.new w4 _ 25
  have SW2 : Step w4 W2 := by rw [hW2]; exact Step.of
  rw [← hW2]
  clear hW2
  obtain ⟨W3, hW3⟩ : ∃ W : World, W = W2.alloc (.cells #[.int .i64 0, .bool false, .int .i64 0, .string ⟨#[]⟩, .slice none 0 0, .slice none 0 0] 25) := ⟨_, rfl⟩
  have HZ : Hid (Blk W3 W2.heap.size 25 zeroC) := by rw [hW3]; exact Blk.new W2 zeroC 25
  have SW3 : Step W2 W3 := by rw [hW3]; exact Step.of
  go_upto_region 6 with fail
  rw [← hW3]
  clear hW3
  obtain ⟨gz, hgz⟩ : ∃ g, W2.heap.size = g := ⟨_, rfl⟩
  rw [hgz] at HZ
  rw [hgz]
  have hgw : W2.heap.size ≤ gz := Nat.le_of_eq hgz
  clear hgz
  go_wp2_with fail
  have hkb : (k1 == 5) = false := beq_eq_false_iff_ne.2 hk
  have HF0 : Hid (∃ (k3 : Int) (b3 : Bool) (n3 : Int) (s3 : ByteArray) (A3 : Option Addr) (nl3 c3 : Nat) (AK3 : Option Addr) (nk3 cK3 : Nat), Blk W3 gz 25 [.int .i64 k3, .bool b3, .int .i64 n3, .string s3, .slice A3 nl3 c3, .slice AK3 nk3 cK3] ∧ Rdd w r1 k3 b3 n3 s3 A3 nl3 c3 AK3 nk3 cK3 ∧ false = r2) := by
    have h := HG.out
    injection h with h1 h2
    rw [← h1, ← h2]
    exact ⟨0, false, 0, ⟨#[]⟩, none, 0, 0, none, 0, 0, HZ.out, Rdd.zero w, rfl⟩
  clear hk
  go_loopw [13, 11] (fun v13 v11 wr => v13 = .int .i64 0 ∧ v11 = .bool false ∧ wr = W3) (fun _ _ _ => 0)
  case atStart => exact ⟨rfl, rfl, rfl⟩
  case round =>
    obtain ⟨rfl, rfl, rfl⟩ := hrel
    obtain ⟨wo, rfl⟩ : ∃ x : World, x = wr := ⟨_, rfl⟩
    have HF := HF0
    clear HF0 HZ
    obtain ⟨d0, d1, d2, d3, d4, d5⟩ := At.z6 (HB1.out.fut (w' := wo)).at0; have ld := (HB1.out.fut (w' := wo)).lt
    obtain ⟨k3, b3, n3, s3, A3, nl3, c3, AK3, nk3, cK3, hz3, hr3, rfl⟩ := HF.out
    have HR3 := hide hr3
    have HZ3 := hide hz3
    have SJ := hide (fun (w' : World) (h1 : Fut wo w') => (by
      have hst3 : Step wo w' := ⟨h1.below⟩
      exact same_rdd (j := r1) w4 w HR2.out HR3.out w' : Calls Tryd.prog 12 #[.agg #[.int .i64 k2, .bool b2, .int .i64 n2, .string s2, .slice A2 nl2 c2, .slice AK2 nk2 cK2], .agg #[.int .i64 k3, .bool b3, .int .i64 n3, .string s3, .slice A3 nl3 c3, .slice AK3 nk3 cK3]] w' fun e w'' => e = .returned (.bool true) ∧ Step w' w''))
    obtain ⟨y0, y1, y2, y3, y4, y5⟩ := At.z6 (HB2.out.fut (w' := wo)).at0
    have ly := (HB2.out.fut (w' := wo)).lt
    obtain ⟨z0, z1, z2, z3, z4, z5⟩ := At.z6 hz3.at0
    have lz := hz3.lt
    clear hz3 hr3 HF
    go_wp2_with (first | (go_at_call 13; (with_reducible refine (NM.out _ _).mono ?_); rintro e wn ⟨rfl, rfl⟩) | (go_at_call 12; (with_reducible refine (SJ.out _ inferInstance).mono ?_); rintro e wt ⟨rfl, hst⟩; clear y0 y1 y2 y3 y4 y5 ly z0 z1 z2 z3 z4 z5 lz) | (go_at_call 14; (with_reducible refine (AW.out _ inferInstance).mono ?_); rintro e wa ⟨rfl, hsa⟩))
    go_ret
    exact ⟨rfl, Step.of⟩
theorem jsonPrints_any (t : T) (key : ByteArray) (w : World) (htb : Tab w) (hrd : RdT w t) (hsm : SmT t) :
    Calls Tryd.prog 4 #[.agg t.cells.toArray, .string key] w fun e w' => e = .returned (.bool true) ∧ Step w w' := by
  cases t with
  | mk k b n s A c l AK cK ks =>
    by_cases hk : k = 5
    · subst hk
      exact jprints_five b n s A l.length c l AK ks.length cK ks rfl rfl key w htb hrd hsm
    · exact jprints_not k b n s A l.length c l AK ks.length cK ks rfl rfl key w htb hrd hsm hk
end Go.Proofs.YtoibfefalflooaaDoor
