/-
  The document's printer: members.
-/
import Derived.Test.YtoibfefalflooaaDoorE4
namespace Go.Proofs.YtoibfefalflooaaDoor
open Go.RowKit

theorem andE_assoc {r : Except Int (List UInt8)} {f g : List UInt8 → Except Int (List UInt8)} : andE (andE r f) g = andE r fun o => andE (f o) g := by cases r <;> rfl
theorem andE_okk {o : List UInt8} {f : List UInt8 → Except Int (List UInt8)} : andE (.ok o) f = f o := rfl
theorem andE_id {r : Except Int (List UInt8)} : (andE r fun o => .ok o) = r := by cases r <;> rfl
theorem addE_two {o a b : List UInt8} : (andE (addE o a) fun o => addE o b) = addE o (a ++ b) := by
  by_cases h : 65536 < o.length + a.length
  · rw [addE_long h, addE_long (by rw [List.length_append]; omega)]; rfl
  · rw [addE_ok h]
    show addE (o ++ a) b = _
    by_cases h2 : 65536 < o.length + (a ++ b).length
    · rw [addE_long h2, addE_long (by rw [List.length_append] at h2 ⊢; omega)]
    · rw [addE_ok h2, addE_ok (by rw [List.length_append] at h2 ⊢; omega), List.append_assoc]
theorem keysF_valid : ∀ {ks seen : List ByteArray}, keysF seen ks = true → ∀ q ∈ ks, validB q = true
  | [], _, _, q, hq => by cases hq
  | k :: r, seen, h, q, hq => by
    rw [keysF_step, Bool.and_eq_true, Bool.and_eq_true] at h
    rcases List.mem_cons.1 hq with e | hq
    · rw [e]; exact h.1.2
    · exact keysF_valid h.2 q hq
theorem rep_stop {r : Except Int (List UInt8)} {b : List UInt8} {code : Int} (h : Rep r b code) (hc : code ≠ 0) (f : List UInt8 → Except Int (List UInt8)) : andE r f = r := by
  cases r with
  | ok o => exact absurd h.2.1 hc
  | error e => rfl
theorem quote_len (s : ByteArray) (h : s.size ≤ 1048576) : (quoteL s).length ≤ 6291458 := by
  have : ∀ l : List UInt8, (qBs l).length ≤ 6 * l.length := fun l => by
    induction l with
    | nil => simp [qBs]
    | cons c r ih => have := (qB_len c).2; rw [qBs, List.length_append, List.length_cons]; omega
  have h2 := this s.data.toList
  have h3 : s.data.toList.length = s.size := rfl
  rw [quoteL, List.length_cons, List.length_append]
  simp only [List.length_cons, List.length_nil]
  omega

set_option maxRecDepth 100000 in
set_option maxHeartbeats 16000000 in
theorem rmem_list (bb : Bool) (n : Int) (s : ByteArray) (A : Option Addr) (nl c : Nat) (l : List T) (AK : Option Addr) (nk cK : Nat) (ks : List ByteArray) (hl : l.length = nl) (hkl : ks.length = nk) (hlc : nl ≤ 1599289640401) (d : Nat) (IH : ∀ t ∈ l, RVAL t d)
    (g : Nat) (r : Except Int (List UInt8)) (wg w : World) (hgs : wg.heap.size = g) (hA : SlAt wg wg.heap.size 6 A (l.map T.cells)) (hrd : RdTs wg l) (hsm : SmTs l) (hf : Fut wg w) (hp : DRep w g r) :
    Calls Tryd.prog 51 #[.pointer (some ⟨g, 0, none⟩), .agg #[.int .i64 4, .bool bb, .int .i64 n, .string s, .slice A nl c, .slice AK nk cK], .int .i64 (16 - (d : Int))] w fun e w' => e = .returned (.tuple #[]) ∧ DRep w' g (andE r fun o => andE (addE o [91]) fun o => andE (prL (T.js l) d false ks true o) fun o => addE o [93]) ∧ Kp g w w' := by
  have HP := hide hp
  have hlt := hp.lt
  have HL := hide hl; have HKL := hide hkl; have HIH := hide IH; have HA := hide hA; have HRD := hide hrd; have HSM := hide hsm; have HGS := hide hgs
  obtain ⟨D, hD⟩ : ∃ D : Int, (16 - (d : Int)) = D := ⟨_, rfl⟩
  have HD := hide hD
  rw [hD]
  obtain ⟨W, hW⟩ : ∃ W : World, W = w.alloc (.cells #[.int .i64 4, .bool bb, .int .i64 n, .string s, .slice A nl c, .slice AK nk cK] 25) := ⟨_, rfl⟩
  have HB : Hid (Blk W w.heap.size 25 [.int .i64 4, .bool bb, .int .i64 n, .string s, .slice A nl c, .slice AK nk cK]) := by rw [hW]; exact Blk.new w _ 25
  have SW : Step w W := by rw [hW]; exact Step.of
  obtain ⟨bj, hbj⟩ : ∃ bj, w.heap.size = bj := ⟨_, rfl⟩
  have HBJ := hide hbj
  have hgw : g < bj := by omega
  rw [hbj] at HB
  have A0 := hide (fun w' (hp : DRep w' g r) => radd_rep g r ⟨#[91]⟩ w' hp (by decide))
  obtain ⟨r1, hr1⟩ : ∃ r1, (andE r fun o => addE o [91]) = r1 := ⟨_, rfl⟩
  have A0 : Hid (∀ w', DRep w' g r → Calls Tryd.prog 30 #[.pointer (some ⟨g, 0, none⟩), .string ⟨#[91]⟩] w' fun e w'' => e = .returned (.tuple #[]) ∧ DRep w'' g r1 ∧ Kp g w' w'') := fun w' hp => by rw [← hr1]; exact A0.out w' hp
  obtain ⟨TOT, hTOT⟩ : ∃ TT, (andE r1 fun o => prL (T.js l) d false ks true o) = TT := ⟨_, rfl⟩
  have HT := hide hTOT
  have HFIN : Hid ((andE r fun o => andE (addE o [91]) fun o => andE (prL (T.js l) d false ks true o) fun o => addE o [93]) = andE TOT fun o => addE o [93]) := by show _ = _; rw [← hTOT, ← hr1, andE_assoc, andE_assoc]
  rw [HFIN.out]
  clear hp hl hkl IH hA hrd hsm hgs hD hr1 hTOT 
  go_enter Tryd.func51, Tryd.ntmps51
  go_upto_region 1 with fail
  rw [← hW]
  clear hW
  clear hbj
  obtain ⟨c0, c1, c2, c3, c4, c5⟩ := At.z6 HB.out.at0
  have lc := HB.out.lt
  go_upto_region 5 with (go_at_call 30; (with_reducible refine (A0.out _ HP.out.fut).mono ?_); rintro e w1 ⟨rfl, hp1, hb1⟩; have HP1 := hide hp1; clear hp1)
  have HM1 : Hid (Kp g w w1) := (Kp.of_fut (inferInstance : Fut w W) (by omega)).trans hb1
  have HB1J := hide (hb1.typed _ _ _ (by decide) (by decide) HB.out)
  clear hb1 c0 c1 c2 c3 c4 c5 lc
  go_wp2_with fail
  go_loopw [8] (fun v8 wr => ∃ (k : Nat) (rk : Except Int (List UInt8)), k ≤ nl ∧ v8 = .int .i64 k ∧ DRep wr g rk ∧ Hid ((andE rk fun o => prL ((T.js l).drop k) d false (ks.drop k) (decide (k = 0)) o) = TOT) ∧ Kp g w wr ∧ Blk wr bj 25 [.int .i64 4, .bool bb, .int .i64 n, .string s, .slice A nl c, .slice AK nk cK]) (fun v8 _ => nl - (intOf v8).toNat)
  case atStart => exact ⟨0, r1, Nat.zero_le _, rfl, HP1.out, HT.out, HM1.out, HB1J.out⟩
  case round =>
    obtain ⟨k, rk, hk, rfl, hp, HX, hkp, hbj⟩ := hrel
    have HP := hide hp; have HM := hide hkp; have HBJ2 := hide hbj
    have hltr := hp.lt
    clear hp hkp hbj HP1 HM1 HB1J HT
    obtain ⟨wo, rfl⟩ : ∃ x : World, x = wr := ⟨_, rfl⟩
    have hfo : Fut wg wo := ⟨hf.below.trans (HM.out.below.mono (by rw [HGS.out]; exact Nat.le_refl _))⟩
    obtain ⟨c0, c1, c2, c3, c4, c5⟩ := At.z6 HBJ2.out.at0
    have lc := HBJ2.out.lt
    by_cases hlt2 : k < nl
    · have hkl : (k : Int) < (nl : Int) := by omega
      have hk0 : (0 : Int) ≤ (k : Int) := by omega
      obtain ⟨b, code, ⟨Ab, nb_, cb, hb, ho, hn, hm⟩, hrep⟩ := HP.out
      have hrs := fun h : code ≠ 0 => rep_stop hrep h
      obtain ⟨q0, q1⟩ := At.z2 hb.at0
      have lq := hb.lt
      clear hb ho hn hm hrep
      by_cases hc : code = 0
      · subst hc
        clear hrs
        obtain ⟨bL, oL, rfl, hbL, hcL⟩ := HA.out.elem (w' := wg) inferInstance (k := k) (by rw [List.length_map, HL.out]; exact hlt2)
        obtain ⟨tk, htk⟩ : ∃ tk, l[k]? = some tk := ⟨_, List.getElem?_eq_getElem (by rw [HL.out]; exact hlt2)⟩
        have hdj : (T.js l).drop k = tk.j :: (T.js l).drop (k + 1) := by
          obtain ⟨h1, h2⟩ := List.getElem?_eq_some_iff.1 htk
          rw [js_map, List.drop_eq_getElem_cons (by rw [List.length_map]; exact h1), List.getElem_map, h2]
        have hax := hcL k _ (by rw [List.getElem?_map, htk]; rfl)
        have VC := HIH.out tk (List.mem_of_getElem? htk)
        have HRT := hide (HRD.out.get htk)
        have HST := hide (HSM.out.get htk)
        have HX2 := HX.out
        simp only [hdj, prL_cons] at HX2
        clear hcL hdj htk
        obtain ⟨tj, htj⟩ : ∃ tj, tk.j = tj := ⟨_, rfl⟩
        cases tk with
        | mk xk xb xn xs xA xc xl xAK xcK xks =>
        unfold RVAL at VC
        simp only [T.cells] at VC hax
        obtain ⟨xnl, hxnl⟩ : ∃ n, xl.length = n := ⟨_, rfl⟩
        obtain ⟨xnk, hxnk⟩ : ∃ n, xks.length = n := ⟨_, rfl⟩
        rw [hxnl, hxnk] at VC hax
        obtain ⟨x0, x1, x2, x3, x4, x5⟩ := At.o6 (hax.below hfo.below hbL)
        have lx := Nat.lt_of_lt_of_le hbL hfo.below.size
        rw [htj] at VC HX2
        clear hxnl hxnk htj
        by_cases hkz : k = 0
        · rw [decide_eq_true hkz] at HX2
          have hkp : ¬ (k : Int) > 0 := by omega
          clear hkz
          have AV := hide (fun w' (hfx : Fut wg w') (hp : DRep w' g rk) => VC g rk wg w' HGS.out HRT.out HST.out hfx hp)
          rw [HD.out] at AV
          have HXN : Hid ((andE (andE rk fun o => prV tj d o) fun o => prL ((T.js l).drop (k + 1)) d false (ks.drop (k + 1)) (decide (k + 1 = 0)) o) = TOT) := by
            show _ = _
            rw [← HX2]
            simp [andE_assoc, andE_okk]
          clear HX2
          go_wp2_with (first | (go_at_call 29; (with_reducible refine (AV.out _ (⟨hf.below.trans ((HM.out.trans (Kp.refl g wo)).below.mono (by rw [HGS.out]; exact Nat.le_refl _))⟩ : Fut wg _) HP.out).mono ?_); rintro e w6 ⟨rfl, hp6, hb6⟩; have HP6 := hide hp6; have KP6 := hide (Kp.trans (Kp.refl g wo) hb6); clear hp6 hb6))
          go_roundw
          case rel => exact ⟨k + 1, _, by omega, by go_num, HP6.out, HXN, HM.out.trans KP6.out, KP6.out.typed _ _ _ (by decide) (by decide) HBJ2.out⟩
          case measure => simp [intOf]; omega
        · rw [decide_eq_false hkz] at HX2
          have hkp : (k : Int) > 0 := by omega
          clear hkz
          have A1 := hide (fun w' (hp : DRep w' g rk) => radd_rep g rk ⟨#[44]⟩ w' hp (by decide))
          have AV := hide (fun w' (hfx : Fut wg w') (hp : DRep w' g (andE rk fun o => addE o [44])) => VC g (andE rk fun o => addE o [44]) wg w' HGS.out HRT.out HST.out hfx hp)
          rw [HD.out] at AV
          have HXN : Hid ((andE (andE (andE rk fun o => addE o [44]) fun o => prV tj d o) fun o => prL ((T.js l).drop (k + 1)) d false (ks.drop (k + 1)) (decide (k + 1 = 0)) o) = TOT) := by
            show _ = _
            rw [← HX2]
            simp [andE_assoc, andE_okk]
          clear HX2
          go_wp2_with (first | (go_at_call 29; (with_reducible refine (AV.out _ (⟨hf.below.trans ((HM.out.trans KP3.out).below.mono (by rw [HGS.out]; exact Nat.le_refl _))⟩ : Fut wg _) HP3.out).mono ?_); rintro e w6 ⟨rfl, hp6, hb6⟩; have HP6 := hide hp6; have KP6 := hide (Kp.trans KP3.out hb6); clear hp6 hb6) | (go_at_call 30; (with_reducible refine (A1.out _ HP.out).mono ?_); rintro e w3 ⟨rfl, hp3, hb3⟩; have HP3 := hide hp3; have KP3 := hide hb3; clear hp3 hb3; clear c0 c1 c2 c3 c4 c5 lc x0 x1 x2 x3 x4 x5 lx; have hbj_ := KP3.out.typed _ _ _ (by decide) (by decide) HBJ2.out; obtain ⟨c0, c1, c2, c3, c4, c5⟩ := At.z6 hbj_.at0; have lc := hbj_.lt; clear hbj_; obtain ⟨x0, x1, x2, x3, x4, x5⟩ := At.o6 (hax.below (hf.below.trans ((HM.out.trans KP3.out).below.mono (by rw [HGS.out]; exact Nat.le_refl _))) hbL); have lx := Nat.lt_of_lt_of_le hbL (hf.below.trans ((HM.out.trans KP3.out).below.mono (by rw [HGS.out]; exact Nat.le_refl _))).size))
          go_roundw
          case rel => exact ⟨k + 1, _, by omega, by go_num, HP6.out, HXN, HM.out.trans KP6.out, KP6.out.typed _ _ _ (by decide) (by decide) HBJ2.out⟩
          case measure => simp [intOf]; omega
      · have HS : Hid (TOT = rk) := by show _ = _; rw [← HX.out]; exact hrs hc _
        have hcb : (code == 0) = false := beq_eq_false_iff_ne.2 hc
        have AS := hide (fun w' (hp : DRep w' g TOT) => radd_rep g TOT ⟨#[93]⟩ w' hp (by decide))
        have HPT : Hid (DRep wo g TOT) := by rw [HS.out]; exact HP.out
        clear hrs hc
        go_wp2_with (go_at_call 30; (with_reducible refine (AS.out _ HPT.out).mono ?_); rintro e w9 ⟨rfl, hp9, hb9⟩; have HP9 := hide hp9; clear hp9)
        go_end0
        exact ⟨rfl, HP9.out, HM.out.trans hb9⟩
    · obtain rfl : k = nl := by omega
      clear hlt2
      have HS : Hid (TOT = rk) := by show _ = _; rw [← HX.out, js_map, List.drop_eq_nil_of_le (by rw [List.length_map, HL.out]; exact Nat.le_refl _)]; simp only [prL]; exact andE_id
      have AS := hide (fun w' (hp : DRep w' g TOT) => radd_rep g TOT ⟨#[93]⟩ w' hp (by decide))
      have HPT : Hid (DRep wo g TOT) := by rw [HS.out]; exact HP.out
      go_wp2_with (go_at_call 30; (with_reducible refine (AS.out _ HPT.out).mono ?_); rintro e w9 ⟨rfl, hp9, hb9⟩; have HP9 := hide hp9; clear hp9)
      go_end0
      exact ⟨rfl, HP9.out, HM.out.trans hb9⟩

set_option maxRecDepth 100000 in
set_option maxHeartbeats 16000000 in
theorem rmem_obj (bb : Bool) (n : Int) (s : ByteArray) (A : Option Addr) (nl c : Nat) (l : List T) (AK : Option Addr) (nk cK : Nat) (ks : List ByteArray) (hl : l.length = nl) (hkl : ks.length = nk) (hlc : nl ≤ 1599289640401) (hnk : nk = nl) (hkv : ∀ q ∈ ks, validB q = true) (d : Nat) (IH : ∀ t ∈ l, RVAL t d)
    (g : Nat) (r : Except Int (List UInt8)) (wg w : World) (hgs : wg.heap.size = g) (hA : SlAt wg wg.heap.size 6 A (l.map T.cells)) (hrd : RdTs wg l) (hsm : SmTs l) (hAK : SlAt wg wg.heap.size 1 AK (strCells ks)) (hsz : ∀ q ∈ ks, q.size ≤ 1048576) (hf : Fut wg w) (hp : DRep w g r) :
    Calls Tryd.prog 51 #[.pointer (some ⟨g, 0, none⟩), .agg #[.int .i64 5, .bool bb, .int .i64 n, .string s, .slice A nl c, .slice AK nk cK], .int .i64 (16 - (d : Int))] w fun e w' => e = .returned (.tuple #[]) ∧ DRep w' g (andE r fun o => andE (addE o [123]) fun o => andE (prL (T.js l) d true ks true o) fun o => addE o [125]) ∧ Kp g w w' := by
  have HP := hide hp
  have hlt := hp.lt
  have HL := hide hl; have HKL := hide hkl; have HIH := hide IH; have HA := hide hA; have HRD := hide hrd; have HSM := hide hsm; have HGS := hide hgs
  have HAK := hide hAK; have HSZ := hide hsz; have HNN := hide hnk; have HKV := hide hkv
  obtain ⟨D, hD⟩ : ∃ D : Int, (16 - (d : Int)) = D := ⟨_, rfl⟩
  have HD := hide hD
  rw [hD]
  obtain ⟨W, hW⟩ : ∃ W : World, W = w.alloc (.cells #[.int .i64 5, .bool bb, .int .i64 n, .string s, .slice A nl c, .slice AK nk cK] 25) := ⟨_, rfl⟩
  have HB : Hid (Blk W w.heap.size 25 [.int .i64 5, .bool bb, .int .i64 n, .string s, .slice A nl c, .slice AK nk cK]) := by rw [hW]; exact Blk.new w _ 25
  have SW : Step w W := by rw [hW]; exact Step.of
  obtain ⟨bj, hbj⟩ : ∃ bj, w.heap.size = bj := ⟨_, rfl⟩
  have HBJ := hide hbj
  have hgw : g < bj := by omega
  rw [hbj] at HB
  have A0 := hide (fun w' (hp : DRep w' g r) => radd_rep g r ⟨#[123]⟩ w' hp (by decide))
  obtain ⟨r1, hr1⟩ : ∃ r1, (andE r fun o => addE o [123]) = r1 := ⟨_, rfl⟩
  have A0 : Hid (∀ w', DRep w' g r → Calls Tryd.prog 30 #[.pointer (some ⟨g, 0, none⟩), .string ⟨#[123]⟩] w' fun e w'' => e = .returned (.tuple #[]) ∧ DRep w'' g r1 ∧ Kp g w' w'') := fun w' hp => by rw [← hr1]; exact A0.out w' hp
  obtain ⟨TOT, hTOT⟩ : ∃ TT, (andE r1 fun o => prL (T.js l) d true ks true o) = TT := ⟨_, rfl⟩
  have HT := hide hTOT
  have HFIN : Hid ((andE r fun o => andE (addE o [123]) fun o => andE (prL (T.js l) d true ks true o) fun o => addE o [125]) = andE TOT fun o => addE o [125]) := by show _ = _; rw [← hTOT, ← hr1, andE_assoc, andE_assoc]
  rw [HFIN.out]
  clear hp hl hkl IH hA hrd hsm hgs hD hr1 hTOT hAK hsz hnk hkv
  go_enter Tryd.func51, Tryd.ntmps51
  go_upto_region 1 with fail
  rw [← hW]
  clear hW
  clear hbj
  obtain ⟨c0, c1, c2, c3, c4, c5⟩ := At.z6 HB.out.at0
  have lc := HB.out.lt
  go_upto_region 5 with (go_at_call 30; (with_reducible refine (A0.out _ HP.out.fut).mono ?_); rintro e w1 ⟨rfl, hp1, hb1⟩; have HP1 := hide hp1; clear hp1)
  have HM1 : Hid (Kp g w w1) := (Kp.of_fut (inferInstance : Fut w W) (by omega)).trans hb1
  have HB1J := hide (hb1.typed _ _ _ (by decide) (by decide) HB.out)
  clear hb1 c0 c1 c2 c3 c4 c5 lc
  go_wp2_with fail
  go_loopw [8] (fun v8 wr => ∃ (k : Nat) (rk : Except Int (List UInt8)), k ≤ nl ∧ v8 = .int .i64 k ∧ DRep wr g rk ∧ Hid ((andE rk fun o => prL ((T.js l).drop k) d true (ks.drop k) (decide (k = 0)) o) = TOT) ∧ Kp g w wr ∧ Blk wr bj 25 [.int .i64 5, .bool bb, .int .i64 n, .string s, .slice A nl c, .slice AK nk cK]) (fun v8 _ => nl - (intOf v8).toNat)
  case atStart => exact ⟨0, r1, Nat.zero_le _, rfl, HP1.out, HT.out, HM1.out, HB1J.out⟩
  case round =>
    obtain ⟨k, rk, hk, rfl, hp, HX, hkp, hbj⟩ := hrel
    have HP := hide hp; have HM := hide hkp; have HBJ2 := hide hbj
    have hltr := hp.lt
    clear hp hkp hbj HP1 HM1 HB1J HT
    obtain ⟨wo, rfl⟩ : ∃ x : World, x = wr := ⟨_, rfl⟩
    have hfo : Fut wg wo := ⟨hf.below.trans (HM.out.below.mono (by rw [HGS.out]; exact Nat.le_refl _))⟩
    obtain ⟨c0, c1, c2, c3, c4, c5⟩ := At.z6 HBJ2.out.at0
    have lc := HBJ2.out.lt
    by_cases hlt2 : k < nl
    · have hkl : (k : Int) < (nl : Int) := by omega
      have hk0 : (0 : Int) ≤ (k : Int) := by omega
      obtain ⟨b, code, ⟨Ab, nb_, cb, hb, ho, hn, hm⟩, hrep⟩ := HP.out
      have hrs := fun h : code ≠ 0 => rep_stop hrep h
      obtain ⟨q0, q1⟩ := At.z2 hb.at0
      have lq := hb.lt
      clear hb ho hn hm hrep
      by_cases hc : code = 0
      · subst hc
        clear hrs
        obtain ⟨bL, oL, rfl, hbL, hcL⟩ := HA.out.elem (w' := wg) inferInstance (k := k) (by rw [List.length_map, HL.out]; exact hlt2)
        obtain ⟨tk, htk⟩ : ∃ tk, l[k]? = some tk := ⟨_, List.getElem?_eq_getElem (by rw [HL.out]; exact hlt2)⟩
        have hdj : (T.js l).drop k = tk.j :: (T.js l).drop (k + 1) := by
          obtain ⟨h1, h2⟩ := List.getElem?_eq_some_iff.1 htk
          rw [js_map, List.drop_eq_getElem_cons (by rw [List.length_map]; exact h1), List.getElem_map, h2]
        have hax := hcL k _ (by rw [List.getElem?_map, htk]; rfl)
        have VC := HIH.out tk (List.mem_of_getElem? htk)
        have HRT := hide (HRD.out.get htk)
        have HST := hide (HSM.out.get htk)
        have HX2 := HX.out
        simp only [hdj, prL_cons] at HX2
        clear hcL hdj htk
        obtain ⟨bK, oK, q, rfl, hbK, hq, hcell⟩ := str_at HAK.out (w := wg) inferInstance (k := k) (by rw [HKL.out, HNN.out]; exact hlt2)
        have HKC := hide hcell
        clear hcell
        have hcell := ((bcell hfo.below).1 bK (oK + k) hbK).trans HKC.out
        have hdk : ks.drop k = q :: ks.drop (k + 1) := by
          obtain ⟨h1, h2⟩ := List.getElem?_eq_some_iff.1 hq
          rw [List.drop_eq_getElem_cons h1, h2]
        have hqs : q.size ≤ 1048576 := HSZ.out q (List.mem_of_getElem? hq)
        have hvq : validB q = true := HKV.out q (List.mem_of_getElem? hq)
        have hklK : (k : Int) < (nk : Int) := by have := HNN.out; omega
        have hql := quote_len q hqs
        obtain ⟨QS, hQS⟩ : ∃ Q, ofL (quoteL q) = Q := ⟨_, rfl⟩
        have hQs : QS.size ≤ 6291458 := by rw [← hQS, ofL_size]; exact hql
        have HQT : Hid ((QS ++ ⟨#[58]⟩).data.toList = quoteL q ++ [58]) := by show _ = _; rw [← hQS, show (⟨#[58]⟩ : ByteArray) = ofL [58] from rfl, ofL_app, ofL_list]
        have RQS : Hid (∀ w', Calls Tryd.prog 49 #[.string q] w' fun e w'' => e = .returned (.string QS) ∧ Step w' w'') := fun w' => by rw [← hQS]; exact rquote_any q w' hqs
        simp only [hdk] at HX2
        clear hdk hq hQS hql
        obtain ⟨tj, htj⟩ : ∃ tj, tk.j = tj := ⟨_, rfl⟩
        cases tk with
        | mk xk xb xn xs xA xc xl xAK xcK xks =>
        unfold RVAL at VC
        simp only [T.cells] at VC hax
        obtain ⟨xnl, hxnl⟩ : ∃ n, xl.length = n := ⟨_, rfl⟩
        obtain ⟨xnk, hxnk⟩ : ∃ n, xks.length = n := ⟨_, rfl⟩
        rw [hxnl, hxnk] at VC hax
        obtain ⟨x0, x1, x2, x3, x4, x5⟩ := At.o6 (hax.below hfo.below hbL)
        have lx := Nat.lt_of_lt_of_le hbL hfo.below.size
        rw [htj] at VC HX2
        clear hxnl hxnk htj
        by_cases hkz : k = 0
        · rw [decide_eq_true hkz] at HX2
          have hkp : ¬ (k : Int) > 0 := by omega
          clear hkz
          have RQ := hide (fun w' => rquote_any q w' hqs)
          have A2 : Hid (∀ w', DRep w' g rk → Calls Tryd.prog 30 #[.pointer (some ⟨g, 0, none⟩), .string (QS ++ ⟨#[58]⟩)] w' fun e w'' => e = .returned (.tuple #[]) ∧ DRep w'' g (andE rk fun o => addE o (quoteL q ++ [58])) ∧ Kp g w' w'') := fun w' hp => by
            have h := radd_rep g rk (QS ++ ⟨#[58]⟩) w' hp (by rw [ByteArray.size_append]; show _ + 1 ≤ _; omega)
            rw [HQT.out] at h
            exact h
          have AV := hide (fun w' (hfx : Fut wg w') (hp : DRep w' g (andE rk fun o => addE o (quoteL q ++ [58]))) => VC g (andE rk fun o => addE o (quoteL q ++ [58])) wg w' HGS.out HRT.out HST.out hfx hp)
          rw [HD.out] at AV
          have HXN : Hid ((andE (andE (andE rk fun o => addE o (quoteL q ++ [58])) fun o => prV tj d o) fun o => prL ((T.js l).drop (k + 1)) d true (ks.drop (k + 1)) (decide (k + 1 = 0)) o) = TOT) := by
            show _ = _
            rw [← HX2]
            simp [andE_assoc, andE_okk, textW_ok hvq, ← addE_two, andE_assoc]
          clear HX2
          go_wp2_with (first | (go_at_call 29; (with_reducible refine (AV.out _ (⟨hf.below.trans ((HM.out.trans KP5.out).below.mono (by rw [HGS.out]; exact Nat.le_refl _))⟩ : Fut wg _) HP5.out).mono ?_); rintro e w6 ⟨rfl, hp6, hb6⟩; have HP6 := hide hp6; have KP6 := hide (Kp.trans KP5.out hb6); clear hp6 hb6) | (go_at_call 30; (with_reducible refine (A2.out _ HP4.out).mono ?_); rintro e w5 ⟨rfl, hp5, hb5⟩; have HP5 := hide hp5; have KP5 := hide (KP4.out.trans hb5); clear hp5 hb5; clear c0 c1 c2 c3 c4 c5 lc x0 x1 x2 x3 x4 x5 lx; have hbj_ := KP5.out.typed _ _ _ (by decide) (by decide) HBJ2.out; obtain ⟨c0, c1, c2, c3, c4, c5⟩ := At.z6 hbj_.at0; have lc := hbj_.lt; clear hbj_; obtain ⟨x0, x1, x2, x3, x4, x5⟩ := At.o6 (hax.below (hf.below.trans ((HM.out.trans KP5.out).below.mono (by rw [HGS.out]; exact Nat.le_refl _))) hbL); have lx := Nat.lt_of_lt_of_le hbL (hf.below.trans ((HM.out.trans KP5.out).below.mono (by rw [HGS.out]; exact Nat.le_refl _))).size; clear hcell; have hcell := ((bcell (hf.below.trans ((HM.out.trans KP5.out).below.mono (by rw [HGS.out]; exact Nat.le_refl _)))).1 bK (oK + k) hbK).trans HKC.out) | (go_at_call 49; (with_reducible refine (RQS.out _).mono ?_); rintro e w4 ⟨rfl, hs4⟩; have KP4 : Hid (Kp g wo w4) := Kp.trans (Kp.refl g wo) (Kp.of_fut (inferInstance : Fut _ w4) (by have := HP.out.lt; omega)); have HP4 := hide (HP.out.fut (w' := w4))))
          go_roundw
          case rel => exact ⟨k + 1, _, by omega, by go_num, HP6.out, HXN, HM.out.trans KP6.out, KP6.out.typed _ _ _ (by decide) (by decide) HBJ2.out⟩
          case measure => simp [intOf]; omega
        · rw [decide_eq_false hkz] at HX2
          have hkp : (k : Int) > 0 := by omega
          clear hkz
          have A1 := hide (fun w' (hp : DRep w' g rk) => radd_rep g rk ⟨#[44]⟩ w' hp (by decide))
          have RQ := hide (fun w' => rquote_any q w' hqs)
          have A2 : Hid (∀ w', DRep w' g (andE rk fun o => addE o [44]) → Calls Tryd.prog 30 #[.pointer (some ⟨g, 0, none⟩), .string (QS ++ ⟨#[58]⟩)] w' fun e w'' => e = .returned (.tuple #[]) ∧ DRep w'' g (andE (andE rk fun o => addE o [44]) fun o => addE o (quoteL q ++ [58])) ∧ Kp g w' w'') := fun w' hp => by
            have h := radd_rep g (andE rk fun o => addE o [44]) (QS ++ ⟨#[58]⟩) w' hp (by rw [ByteArray.size_append]; show _ + 1 ≤ _; omega)
            rw [HQT.out] at h
            exact h
          have AV := hide (fun w' (hfx : Fut wg w') (hp : DRep w' g (andE (andE rk fun o => addE o [44]) fun o => addE o (quoteL q ++ [58]))) => VC g (andE (andE rk fun o => addE o [44]) fun o => addE o (quoteL q ++ [58])) wg w' HGS.out HRT.out HST.out hfx hp)
          rw [HD.out] at AV
          have HXN : Hid ((andE (andE (andE (andE rk fun o => addE o [44]) fun o => addE o (quoteL q ++ [58])) fun o => prV tj d o) fun o => prL ((T.js l).drop (k + 1)) d true (ks.drop (k + 1)) (decide (k + 1 = 0)) o) = TOT) := by
            show _ = _
            rw [← HX2]
            simp [andE_assoc, textW_ok hvq, ← addE_two, andE_assoc]
          clear HX2
          go_wp2_with (first | (go_at_call 29; (with_reducible refine (AV.out _ (⟨hf.below.trans ((HM.out.trans KP5.out).below.mono (by rw [HGS.out]; exact Nat.le_refl _))⟩ : Fut wg _) HP5.out).mono ?_); rintro e w6 ⟨rfl, hp6, hb6⟩; have HP6 := hide hp6; have KP6 := hide (Kp.trans KP5.out hb6); clear hp6 hb6) | (go_at_call 30; (with_reducible refine (A2.out _ HP4.out).mono ?_); rintro e w5 ⟨rfl, hp5, hb5⟩; have HP5 := hide hp5; have KP5 := hide (KP4.out.trans hb5); clear hp5 hb5; clear c0 c1 c2 c3 c4 c5 lc x0 x1 x2 x3 x4 x5 lx; have hbj_ := KP5.out.typed _ _ _ (by decide) (by decide) HBJ2.out; obtain ⟨c0, c1, c2, c3, c4, c5⟩ := At.z6 hbj_.at0; have lc := hbj_.lt; clear hbj_; obtain ⟨x0, x1, x2, x3, x4, x5⟩ := At.o6 (hax.below (hf.below.trans ((HM.out.trans KP5.out).below.mono (by rw [HGS.out]; exact Nat.le_refl _))) hbL); have lx := Nat.lt_of_lt_of_le hbL (hf.below.trans ((HM.out.trans KP5.out).below.mono (by rw [HGS.out]; exact Nat.le_refl _))).size; clear hcell; have hcell := ((bcell (hf.below.trans ((HM.out.trans KP5.out).below.mono (by rw [HGS.out]; exact Nat.le_refl _)))).1 bK (oK + k) hbK).trans HKC.out) | (go_at_call 49; (with_reducible refine (RQS.out _).mono ?_); rintro e w4 ⟨rfl, hs4⟩; have KP4 : Hid (Kp g wo w4) := Kp.trans KP3.out (Kp.of_fut (inferInstance : Fut _ w4) (by have := HP3.out.lt; omega)); have HP4 := hide (HP3.out.fut (w' := w4))) | (go_at_call 30; (with_reducible refine (A1.out _ HP.out).mono ?_); rintro e w3 ⟨rfl, hp3, hb3⟩; have HP3 := hide hp3; have KP3 := hide hb3; clear hp3 hb3; clear c0 c1 c2 c3 c4 c5 lc x0 x1 x2 x3 x4 x5 lx; have hbj_ := KP3.out.typed _ _ _ (by decide) (by decide) HBJ2.out; obtain ⟨c0, c1, c2, c3, c4, c5⟩ := At.z6 hbj_.at0; have lc := hbj_.lt; clear hbj_; obtain ⟨x0, x1, x2, x3, x4, x5⟩ := At.o6 (hax.below (hf.below.trans ((HM.out.trans KP3.out).below.mono (by rw [HGS.out]; exact Nat.le_refl _))) hbL); have lx := Nat.lt_of_lt_of_le hbL (hf.below.trans ((HM.out.trans KP3.out).below.mono (by rw [HGS.out]; exact Nat.le_refl _))).size; clear hcell; have hcell := ((bcell (hf.below.trans ((HM.out.trans KP3.out).below.mono (by rw [HGS.out]; exact Nat.le_refl _)))).1 bK (oK + k) hbK).trans HKC.out))
          go_roundw
          case rel => exact ⟨k + 1, _, by omega, by go_num, HP6.out, HXN, HM.out.trans KP6.out, KP6.out.typed _ _ _ (by decide) (by decide) HBJ2.out⟩
          case measure => simp [intOf]; omega
      · have HS : Hid (TOT = rk) := by show _ = _; rw [← HX.out]; exact hrs hc _
        have hcb : (code == 0) = false := beq_eq_false_iff_ne.2 hc
        have AS := hide (fun w' (hp : DRep w' g TOT) => radd_rep g TOT ⟨#[125]⟩ w' hp (by decide))
        have HPT : Hid (DRep wo g TOT) := by rw [HS.out]; exact HP.out
        clear hrs hc
        go_wp2_with (go_at_call 30; (with_reducible refine (AS.out _ HPT.out).mono ?_); rintro e w9 ⟨rfl, hp9, hb9⟩; have HP9 := hide hp9; clear hp9)
        go_end0
        exact ⟨rfl, HP9.out, HM.out.trans hb9⟩
    · obtain rfl : k = nl := by omega
      clear hlt2
      have HS : Hid (TOT = rk) := by show _ = _; rw [← HX.out, js_map, List.drop_eq_nil_of_le (by rw [List.length_map, HL.out]; exact Nat.le_refl _)]; simp only [prL]; exact andE_id
      have AS := hide (fun w' (hp : DRep w' g TOT) => radd_rep g TOT ⟨#[125]⟩ w' hp (by decide))
      have HPT : Hid (DRep wo g TOT) := by rw [HS.out]; exact HP.out
      go_wp2_with (go_at_call 30; (with_reducible refine (AS.out _ HPT.out).mono ?_); rintro e w9 ⟨rfl, hp9, hb9⟩; have HP9 := hide hp9; clear hp9)
      go_end0
      exact ⟨rfl, HP9.out, HM.out.trans hb9⟩
end Go.Proofs.YtoibfefalflooaaDoor
