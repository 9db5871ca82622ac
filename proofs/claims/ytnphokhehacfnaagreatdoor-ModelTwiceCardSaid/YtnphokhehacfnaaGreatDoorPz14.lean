/-
  Texts put together: Dj, Do.
-/
import Derived.Test.YtnphokhehacfnaaGreatDoorPz00
import Derived.Test.YtnphokhehacfnaaGreatDoorPz05
import Derived.Test.YtnphokhehacfnaaGreatDoorPz07
import Derived.Test.YtnphokhehacfnaaGreatDoorPz13
namespace Go.Proofs.YtnphokhehacfnaaGreatDoor
open Go.RowKit

set_option maxRecDepth 100000 in
set_option maxHeartbeats 16000000 in
theorem aggOf_any {w0 : World} (kd : Int) (vs : List Val) (A : Option Addr) (cap : Nat) (w : World) (h : SlAt w0 w0.heap.size 4 A (vs.map Val.cells)) [f0 : Fut w0 w] (hl : vs.length ≤ 3518437208780) (hr : ∀ v ∈ vs, -9223372036854775808 ≤ v.i ∧ v.i ≤ 9223372036854775807) :
    Calls Tryz.prog 130 #[.int .i64 kd, .slice A vs.length cap] w fun e w' => e = .returned (.tuple #[(aggP kd vs).1.ag, .int .i64 (aggP kd vs).2]) ∧ Step w w' := by
  have z0_ := f0.below.size
  have HRG : Hid (∀ v ∈ vs.map clean, -9223372036854775808 ≤ v.i ∧ v.i ≤ 9223372036854775807) := by
    intro v hv
    obtain ⟨u, hu, rfl⟩ := List.mem_map.1 hv
    have := hr u hu
    have h2 : (clean u).i = u.i ∨ (clean u).i = 0 := by
      unfold clean
      split
      · exact .inl rfl
      · split
        · exact .inr rfl
        · split
          · exact .inr rfl
          · exact .inr rfl
    omega
  clear hr
  obtain ⟨W, hW⟩ : ∃ W, W = w.alloc (.cells #[.int .i64 0, .int .i64 0, .bool false, .string ⟨#[]⟩] 36) := ⟨_, rfl⟩
  have SW : Step w W := by rw [hW]; exact Step.of
  have HR0 : Hid (Blk W w.heap.size 36 [.int .i64 0, .int .i64 0, .bool false, .string ⟨#[]⟩]) := by rw [hW]; exact Blk.new w _ 36
  have HW := hide hW
  clear hW
  have hzW := SW.size
  go_enter Tryz.func130, Tryz.ntmps130
  go_upto_region 2 with fail
  rw [← HW.out]
  go_wp2_with fail
  go_loopw [6, 8, 12] (fun all _ i wr => ∃ (k : Nat) (A' : Option Addr) (c' : Nat), k ≤ vs.length ∧ i = .int .i64 k ∧ all = .slice A' k c' ∧ Own wr W.heap.size 36 4 (.slice A' k c') (((vs.take k).map clean).map Val.cells) ∧ Step W wr) (fun _ _ i _ => vs.length - (intOf i).toNat)
  case atStart => exact ⟨0, none, 0, Nat.zero_le _, rfl, rfl, Own.nil_ _ _ _ _, Step.of⟩
  case round =>
    obtain ⟨k, A', c', hk, rfl, rfl, hown, hst⟩ := hrel
    have HO := hide hown; clear hown
    obtain ⟨wo, rfl⟩ : ∃ x : World, x = wr := ⟨_, rfl⟩
    have hzo := hst.size
    by_cases hlt : k < vs.length
    · obtain ⟨b, off, hA, hb, hc⟩ := h.elem (w' := wo) inferInstance (k := k) (by simpa using hlt)
      obtain ⟨v, hv⟩ : ∃ v, vs[k]? = some v := ⟨_, List.getElem?_eq_getElem hlt⟩
      obtain ⟨v0, v1, v2, v3⟩ := At.l4 (hc k v.cells (by simp [hv]))
      have hkl : (k : Int) < (vs.length : Int) := by omega
      have hk0 : (0 : Int) ≤ (k : Int) := by omega
      have hlb : b < wo.heap.size := by omega
      have HTK : Hid ((vs.take (k + 1)).map clean = (vs.take k).map clean ++ [clean v]) := by show _ = _; rw [List.take_add_one, hv]; simp
      have HLN : Hid ((((vs.take k).map clean).map Val.cells).length = k) := by show _ = _; simp; omega
      have PV := hide (plain_ag v)
      obtain ⟨W2, hW2⟩ : ∃ y : World, y = wo.alloc (.cells #[.int .i64 v.kind, .int .i64 v.i, .bool v.b, .string v.s] 36) := ⟨_, rfl⟩
      have SW2 : Step wo W2 := by rw [hW2]; exact Step.of
      have HV2 : Hid (Blk W2 wo.heap.size 36 [.int .i64 v.kind, .int .i64 v.i, .bool v.b, .string v.s]) := by rw [hW2]; exact Blk.new wo _ 36
      have HW2 := hide hW2
      rw [hA]
      clear hc hv hA hW2
      go_upto_region 5 with fail
      rw [HW2.out.symm]
      clear v0 v1 v2 v3
      obtain ⟨g0, g1, g2, g3⟩ := At.z4 HV2.out.at0
      have lg := HV2.out.lt
      go_wp2_with (first
        | (go_at_call 109; (with_reducible refine (PV.out _).mono ?_); rintro e w5 ⟨rfl, hs5⟩)
        | (at_builtin; have HOW := hide ((HO.out.fut (w' := w5)).alloc (.cells #[.int .i64 (kindV v), .int .i64 (clean v).i, .bool (clean v).b, .string (clean v).s] 36)); have HNew := hide (SlAt.one w5 4 [.int .i64 (kindV v), .int .i64 (clean v).i, .bool (clean v).b, .string (clean v).s] 36); go_loud (refine wpList_append_sl rfl (.tmp 16) (.tmp 19) 65 rfl eiV4 (base := W.heap.size) (xs := ((vs.take k).map clean).map Val.cells) rfl HOW.out (vals_fit _) (ys := [[.int .i64 (kindV v), .int .i64 (clean v).i, .bool (clean v).b, .string (clean v).s]]) rfl (by simp) HNew.out (box_fit v) (by rw [HLN.out]; show (k + 1) * 40 ≤ _; omega) (fut W (w5.alloc (.cells #[.int .i64 (kindV v), .int .i64 (clean v).i, .bool (clean v).b, .string (clean v).s] 36))).size (N := k + 1) (by rw [HLN.out]; rfl) ?_; intro A7 c7 w7 hq1 hq2 hown7 hgr7 hbel7; have H7 := hide hown7; have hs7 : Step W w7 := ⟨(fut W (w5.alloc (.cells #[.int .i64 (kindV v), .int .i64 (clean v).i, .bool (clean v).b, .string (clean v).s] 36))).trans hbel7⟩; clear hown7 hgr7 hbel7)))
      go_roundw
      case rel => exact ⟨k + 1, A7, c7, by omega, by go_num, rfl, by rw [HTK.out, List.map_append, List.map_cons, List.map_nil, box_cells]; exact H7.out, hs7⟩
      case measure => simp [intOf]; omega
    · obtain rfl : k = vs.length := by omega
      rw [List.take_length] at HO
      have HLC : Hid ((vs.map clean).length = vs.length) := by show _ = _; simp
      have HSL := hide (HO.out.sl (vals_fit _).len)
      have SO : Hid (∀ (w' : World) [Fut wo w'], Calls Tryz.prog 161 #[.int .i64 0, .slice A' vs.length c'] w' fun e w'' => e = .returned (.agg #[.int .i64 0, .int .i64 (nullsP (vs.map clean) : Int), .int .i64 (minP (vs.map clean)).kind, .int .i64 (minP (vs.map clean)).i, .bool (minP (vs.map clean)).b, .string (minP (vs.map clean)).s, .int .i64 (maxP (vs.map clean)).kind, .int .i64 (maxP (vs.map clean)).i, .bool (maxP (vs.map clean)).b, .string (maxP (vs.map clean)).s]) ∧ Step w' w'') := fun w' _ => by
        have := statsOf_any 0 (vs.map clean) A' c' w' HSL.out (by rw [HLC.out]; omega)
        rw [HLC.out] at this
        exact this
      have hnl : (nullsP (vs.map clean) : Int) ≤ (vs.length : Int) := by
        have := List.countP_le_length (p := fun v => kindV v == 0) (l := vs.map clean)
        rw [HLC.out] at this
        unfold nullsP
        omega
      by_cases k0 : kd = 0
      · have HE : Hid (aggP kd vs = (Val.zero, 0)) := by show _ = _; rw [aggP, if_pos k0]
        subst k0
        go_upto_region 8 with (go_at_call 161; (with_reducible refine (SO.out _).mono ?_); rintro e w3 ⟨rfl, hs3⟩)
        obtain ⟨X, hX⟩ : ∃ x : World, x = w3.alloc (.cells #[.int .i64 0, .int .i64 (nullsP (vs.map clean) : Int), .int .i64 (minP (vs.map clean)).kind, .int .i64 (minP (vs.map clean)).i, .bool (minP (vs.map clean)).b, .string (minP (vs.map clean)).s, .int .i64 (maxP (vs.map clean)).kind, .int .i64 (maxP (vs.map clean)).i, .bool (maxP (vs.map clean)).b, .string (maxP (vs.map clean)).s] 158) := ⟨_, rfl⟩
        have SX : Step w3 X := by rw [hX]; exact Step.of
        have HS := hide (show Blk X w3.heap.size 158 [.int .i64 0, .int .i64 (nullsP (vs.map clean) : Int), .int .i64 (minP (vs.map clean)).kind, .int .i64 (minP (vs.map clean)).i, .bool (minP (vs.map clean)).b, .string (minP (vs.map clean)).s, .int .i64 (maxP (vs.map clean)).kind, .int .i64 (maxP (vs.map clean)).i, .bool (maxP (vs.map clean)).b, .string (maxP (vs.map clean)).s] by rw [hX]; exact Blk.new w3 _ 158)
        rw [← hX]
        clear hX
        obtain ⟨m0, m1, m2, m3, m4, m5, m6, m7, m8, m9⟩ := At.z10 HS.out.at0
        have lm := HS.out.lt
        obtain ⟨r0, r1, r2, r3⟩ := At.z4 (HR0.out.fut (w' := X)).at0
        have lr := (HR0.out.fut (w' := X)).lt
        have fr := (HR0.out.fut (w' := X)).free
        go_wp2_with fail
        refine bodyPost_ret (v := .tuple #[.agg #[.int .i64 0, .int .i64 0, .bool false, .string ⟨#[]⟩], .int .i64 0]) (by simp [results, Tryz.results130, go_sem, r0, r1, r2, r3]) rfl ?_
        exact ⟨by rw [HE.out]; rfl, Step.of⟩
      · have b0 : (kd == 0) = false := beq_eq_false_iff_ne.2 k0
        by_cases k1 : kd = 1
        · have HE : Hid (aggP kd vs = (⟨1, (vs.length : Int) - (nullsP (vs.map clean) : Int), false, .empty⟩, 0)) := by show _ = _; rw [aggP, if_neg k0, if_pos k1]
          have NB := hide (fun w' => number_any ((vs.length : Int) - (nullsP (vs.map clean) : Int)) w')
          have hsub : wrap64 ((vs.length : Int) - (nullsP (vs.map clean) : Int)) = (vs.length : Int) - (nullsP (vs.map clean) : Int) := by rw [wrap64]; omega
          subst k1
          clear k0
          go_upto_region 8 with (go_at_call 161; (with_reducible refine (SO.out _).mono ?_); rintro e w3 ⟨rfl, hs3⟩)
          obtain ⟨X, hX⟩ : ∃ x : World, x = w3.alloc (.cells #[.int .i64 0, .int .i64 (nullsP (vs.map clean) : Int), .int .i64 (minP (vs.map clean)).kind, .int .i64 (minP (vs.map clean)).i, .bool (minP (vs.map clean)).b, .string (minP (vs.map clean)).s, .int .i64 (maxP (vs.map clean)).kind, .int .i64 (maxP (vs.map clean)).i, .bool (maxP (vs.map clean)).b, .string (maxP (vs.map clean)).s] 158) := ⟨_, rfl⟩
          have SX : Step w3 X := by rw [hX]; exact Step.of
          have HS := hide (show Blk X w3.heap.size 158 [.int .i64 0, .int .i64 (nullsP (vs.map clean) : Int), .int .i64 (minP (vs.map clean)).kind, .int .i64 (minP (vs.map clean)).i, .bool (minP (vs.map clean)).b, .string (minP (vs.map clean)).s, .int .i64 (maxP (vs.map clean)).kind, .int .i64 (maxP (vs.map clean)).i, .bool (maxP (vs.map clean)).b, .string (maxP (vs.map clean)).s] by rw [hX]; exact Blk.new w3 _ 158)
          rw [← hX]
          clear hX
          obtain ⟨m0, m1, m2, m3, m4, m5, m6, m7, m8, m9⟩ := At.z10 HS.out.at0
          have lm := HS.out.lt
          obtain ⟨r0, r1, r2, r3⟩ := At.z4 (HR0.out.fut (w' := X)).at0
          have lr := (HR0.out.fut (w' := X)).lt
          have fr := (HR0.out.fut (w' := X)).free
          go_wp2_with (go_at_call 162; (with_reducible refine (NB.out _).mono ?_); rintro e w4 ⟨rfl, hs4⟩; clear r0 r1 r2 r3 lr fr; obtain ⟨r0, r1, r2, r3⟩ := At.z4 (HR0.out.fut (w' := w4)).at0; have lr := (HR0.out.fut (w' := w4)).lt; have fr := (HR0.out.fut (w' := w4)).free)
          refine bodyPost_ret (v := .tuple #[.agg #[.int .i64 1, .int .i64 ((vs.length : Int) - (nullsP (vs.map clean) : Int)), .bool false, .string ⟨#[]⟩], .int .i64 0]) (by simp [results, Tryz.results130, go_sem, r0, r1, r2, r3]) rfl ?_
          exact ⟨by rw [HE.out]; rfl, Step.of⟩
        · have b1 : (kd == 1) = false := beq_eq_false_iff_ne.2 k1
          by_cases k2 : kd = 2
          · have HE : Hid (aggP kd vs = sumP (vs.map clean)) := by show _ = _; rw [aggP, if_neg k0, if_neg k1, if_pos k2]
            have SM : Hid (∀ (w' : World) [Fut wo w'], Calls Tryz.prog 163 #[.slice A' vs.length c'] w' fun e w'' => e = .returned (.tuple #[.agg #[.int .i64 (sumP (vs.map clean)).1.kind, .int .i64 (sumP (vs.map clean)).1.i, .bool (sumP (vs.map clean)).1.b, .string (sumP (vs.map clean)).1.s], .int .i64 (sumP (vs.map clean)).2]) ∧ Step w' w'') := fun w' _ => by
              have := sum_any (vs.map clean) A' c' w' HSL.out (by rw [HLC.out]; exact hl) HRG.out
              rw [HLC.out] at this
              exact this
            subst k2
            clear k0 k1
            go_upto_region 8 with (go_at_call 161; (with_reducible refine (SO.out _).mono ?_); rintro e w3 ⟨rfl, hs3⟩)
            obtain ⟨X, hX⟩ : ∃ x : World, x = w3.alloc (.cells #[.int .i64 0, .int .i64 (nullsP (vs.map clean) : Int), .int .i64 (minP (vs.map clean)).kind, .int .i64 (minP (vs.map clean)).i, .bool (minP (vs.map clean)).b, .string (minP (vs.map clean)).s, .int .i64 (maxP (vs.map clean)).kind, .int .i64 (maxP (vs.map clean)).i, .bool (maxP (vs.map clean)).b, .string (maxP (vs.map clean)).s] 158) := ⟨_, rfl⟩
            have SX : Step w3 X := by rw [hX]; exact Step.of
            have HS := hide (show Blk X w3.heap.size 158 [.int .i64 0, .int .i64 (nullsP (vs.map clean) : Int), .int .i64 (minP (vs.map clean)).kind, .int .i64 (minP (vs.map clean)).i, .bool (minP (vs.map clean)).b, .string (minP (vs.map clean)).s, .int .i64 (maxP (vs.map clean)).kind, .int .i64 (maxP (vs.map clean)).i, .bool (maxP (vs.map clean)).b, .string (maxP (vs.map clean)).s] by rw [hX]; exact Blk.new w3 _ 158)
            rw [← hX]
            clear hX
            obtain ⟨m0, m1, m2, m3, m4, m5, m6, m7, m8, m9⟩ := At.z10 HS.out.at0
            have lm := HS.out.lt
            obtain ⟨r0, r1, r2, r3⟩ := At.z4 (HR0.out.fut (w' := X)).at0
            have lr := (HR0.out.fut (w' := X)).lt
            have fr := (HR0.out.fut (w' := X)).free
            go_wp2_with (go_at_call 163; (with_reducible refine (SM.out _).mono ?_); rintro e w4 ⟨rfl, hs4⟩; clear r0 r1 r2 r3 lr fr; obtain ⟨r0, r1, r2, r3⟩ := At.z4 (HR0.out.fut (w' := w4)).at0; have lr := (HR0.out.fut (w' := w4)).lt; have fr := (HR0.out.fut (w' := w4)).free)
            refine bodyPost_ret (v := .tuple #[.agg #[.int .i64 (sumP (vs.map clean)).1.kind, .int .i64 (sumP (vs.map clean)).1.i, .bool (sumP (vs.map clean)).1.b, .string (sumP (vs.map clean)).1.s], .int .i64 (sumP (vs.map clean)).2]) (by simp [results, Tryz.results130, go_sem, r0, r1, r2, r3]) rfl ?_
            exact ⟨by rw [HE.out]; rfl, Step.of⟩
          · have b2 : (kd == 2) = false := beq_eq_false_iff_ne.2 k2
            by_cases k3 : kd = 3
            · have HE : Hid (aggP kd vs = (minP (vs.map clean), 0)) := by show _ = _; rw [aggP, if_neg k0, if_neg k1, if_neg k2, if_pos k3]
              subst k3
              clear k0 k1 k2
              go_upto_region 8 with (go_at_call 161; (with_reducible refine (SO.out _).mono ?_); rintro e w3 ⟨rfl, hs3⟩)
              obtain ⟨X, hX⟩ : ∃ x : World, x = w3.alloc (.cells #[.int .i64 0, .int .i64 (nullsP (vs.map clean) : Int), .int .i64 (minP (vs.map clean)).kind, .int .i64 (minP (vs.map clean)).i, .bool (minP (vs.map clean)).b, .string (minP (vs.map clean)).s, .int .i64 (maxP (vs.map clean)).kind, .int .i64 (maxP (vs.map clean)).i, .bool (maxP (vs.map clean)).b, .string (maxP (vs.map clean)).s] 158) := ⟨_, rfl⟩
              have SX : Step w3 X := by rw [hX]; exact Step.of
              have HS := hide (show Blk X w3.heap.size 158 [.int .i64 0, .int .i64 (nullsP (vs.map clean) : Int), .int .i64 (minP (vs.map clean)).kind, .int .i64 (minP (vs.map clean)).i, .bool (minP (vs.map clean)).b, .string (minP (vs.map clean)).s, .int .i64 (maxP (vs.map clean)).kind, .int .i64 (maxP (vs.map clean)).i, .bool (maxP (vs.map clean)).b, .string (maxP (vs.map clean)).s] by rw [hX]; exact Blk.new w3 _ 158)
              rw [← hX]
              clear hX
              obtain ⟨m0, m1, m2, m3, m4, m5, m6, m7, m8, m9⟩ := At.z10 HS.out.at0
              have lm := HS.out.lt
              obtain ⟨r0, r1, r2, r3⟩ := At.z4 (HR0.out.fut (w' := X)).at0
              have lr := (HR0.out.fut (w' := X)).lt
              have fr := (HR0.out.fut (w' := X)).free
              go_wp2_with fail
              refine bodyPost_ret (v := .tuple #[.agg #[.int .i64 (minP (vs.map clean)).kind, .int .i64 (minP (vs.map clean)).i, .bool (minP (vs.map clean)).b, .string (minP (vs.map clean)).s], .int .i64 0]) (by simp [results, Tryz.results130, go_sem, r0, r1, r2, r3]) rfl ?_
              exact ⟨by rw [HE.out]; rfl, Step.of⟩
            · have b3 : (kd == 3) = false := beq_eq_false_iff_ne.2 k3
              by_cases k4 : kd = 4
              · have HE : Hid (aggP kd vs = (maxP (vs.map clean), 0)) := by show _ = _; rw [aggP, if_neg k0, if_neg k1, if_neg k2, if_neg k3, if_pos k4]
                subst k4
                clear k0 k1 k2 k3
                go_upto_region 8 with (go_at_call 161; (with_reducible refine (SO.out _).mono ?_); rintro e w3 ⟨rfl, hs3⟩)
                obtain ⟨X, hX⟩ : ∃ x : World, x = w3.alloc (.cells #[.int .i64 0, .int .i64 (nullsP (vs.map clean) : Int), .int .i64 (minP (vs.map clean)).kind, .int .i64 (minP (vs.map clean)).i, .bool (minP (vs.map clean)).b, .string (minP (vs.map clean)).s, .int .i64 (maxP (vs.map clean)).kind, .int .i64 (maxP (vs.map clean)).i, .bool (maxP (vs.map clean)).b, .string (maxP (vs.map clean)).s] 158) := ⟨_, rfl⟩
                have SX : Step w3 X := by rw [hX]; exact Step.of
                have HS := hide (show Blk X w3.heap.size 158 [.int .i64 0, .int .i64 (nullsP (vs.map clean) : Int), .int .i64 (minP (vs.map clean)).kind, .int .i64 (minP (vs.map clean)).i, .bool (minP (vs.map clean)).b, .string (minP (vs.map clean)).s, .int .i64 (maxP (vs.map clean)).kind, .int .i64 (maxP (vs.map clean)).i, .bool (maxP (vs.map clean)).b, .string (maxP (vs.map clean)).s] by rw [hX]; exact Blk.new w3 _ 158)
                rw [← hX]
                clear hX
                obtain ⟨m0, m1, m2, m3, m4, m5, m6, m7, m8, m9⟩ := At.z10 HS.out.at0
                have lm := HS.out.lt
                obtain ⟨r0, r1, r2, r3⟩ := At.z4 (HR0.out.fut (w' := X)).at0
                have lr := (HR0.out.fut (w' := X)).lt
                have fr := (HR0.out.fut (w' := X)).free
                go_wp2_with fail
                refine bodyPost_ret (v := .tuple #[.agg #[.int .i64 (maxP (vs.map clean)).kind, .int .i64 (maxP (vs.map clean)).i, .bool (maxP (vs.map clean)).b, .string (maxP (vs.map clean)).s], .int .i64 0]) (by simp [results, Tryz.results130, go_sem, r0, r1, r2, r3]) rfl ?_
                exact ⟨by rw [HE.out]; rfl, Step.of⟩
              · have b4 : (kd == 4) = false := beq_eq_false_iff_ne.2 k4
                have HE : Hid (aggP kd vs = (Val.zero, 1700)) := by show _ = _; rw [aggP, if_neg k0, if_neg k1, if_neg k2, if_neg k3, if_neg k4]
                clear k0 k1 k2 k3 k4
                go_upto_region 8 with (go_at_call 161; (with_reducible refine (SO.out _).mono ?_); rintro e w3 ⟨rfl, hs3⟩)
                obtain ⟨X, hX⟩ : ∃ x : World, x = w3.alloc (.cells #[.int .i64 0, .int .i64 (nullsP (vs.map clean) : Int), .int .i64 (minP (vs.map clean)).kind, .int .i64 (minP (vs.map clean)).i, .bool (minP (vs.map clean)).b, .string (minP (vs.map clean)).s, .int .i64 (maxP (vs.map clean)).kind, .int .i64 (maxP (vs.map clean)).i, .bool (maxP (vs.map clean)).b, .string (maxP (vs.map clean)).s] 158) := ⟨_, rfl⟩
                have SX : Step w3 X := by rw [hX]; exact Step.of
                have HS := hide (show Blk X w3.heap.size 158 [.int .i64 0, .int .i64 (nullsP (vs.map clean) : Int), .int .i64 (minP (vs.map clean)).kind, .int .i64 (minP (vs.map clean)).i, .bool (minP (vs.map clean)).b, .string (minP (vs.map clean)).s, .int .i64 (maxP (vs.map clean)).kind, .int .i64 (maxP (vs.map clean)).i, .bool (maxP (vs.map clean)).b, .string (maxP (vs.map clean)).s] by rw [hX]; exact Blk.new w3 _ 158)
                rw [← hX]
                clear hX
                obtain ⟨m0, m1, m2, m3, m4, m5, m6, m7, m8, m9⟩ := At.z10 HS.out.at0
                have lm := HS.out.lt
                obtain ⟨r0, r1, r2, r3⟩ := At.z4 (HR0.out.fut (w' := X)).at0
                have lr := (HR0.out.fut (w' := X)).lt
                have fr := (HR0.out.fut (w' := X)).free
                go_wp2_with fail
                refine bodyPost_ret (v := .tuple #[.agg #[.int .i64 0, .int .i64 0, .bool false, .string ⟨#[]⟩], .int .i64 1700]) (by simp [results, Tryz.results130, go_sem, r0, r1, r2, r3]) rfl ?_
                exact ⟨by rw [HE.out]; rfl, Step.of⟩
end Go.Proofs.YtnphokhehacfnaaGreatDoor

namespace Go.Proofs.YtnphokhehacfnaaGreatDoor
open Go.RowKit

def pickC (xn : Nat) (vs : List Val) : Val := vs.getD xn Val.zero
/-- What a read of an aggregate answers. -/
def readA (t : Tb) (o : Opp) : Except Int Val :=
  if o.kind ≠ 9 ∨ predB o.ns = false ∨ o.agg < 0 ∨ 4 < o.agg then .error 9
  else match yesP t o.ns with
    | .error c => .error c
    | .ok l =>
      if o.cols.all (fun n => decide (0 ≤ idx (named n) t.s.cols)) = false then .error 5
      else if idx (named o.col) t.s.cols < 0 then .error 5
      else if (aggP o.agg ((takeR t.rows l).1.map (pickC (idx (named o.col) t.s.cols).toNat))).2 = 1702 then .error 4
      else if (aggP o.agg ((takeR t.rows l).1.map (pickC (idx (named o.col) t.s.cols).toNat))).2 ≠ 0 then .error 5
      else .ok (aggP o.agg ((takeR t.rows l).1.map (pickC (idx (named o.col) t.s.cols).toNat))).1
def ReadA (U : Nat) (w : World) (r : Except Int Val) (e : Ending) (w' : World) : Prop :=
  match r with
  | .error c => e = .panicked [{ v := faultM c, recovered := false }] ∧ Step w w'
  | .ok v => e = .returned (.tuple #[]) ∧ ∃ w3, Step w w3 ∧ w' = (((w3.setCell ⟨U, 3, none⟩ (.int .i64 v.kind)).setCell ⟨U, 4, none⟩ (.int .i64 v.i)).setCell ⟨U, 5, none⟩ (.bool v.b)).setCell ⟨U, 6, none⟩ (.string v.s)
theorem take_mem {vss : List (List Val)} {l : List Int} {r : List Val} (h : r ∈ (takeR vss l).1) : ∃ x ∈ vss, r = x.map clean := by
  unfold takeR at h
  split at h
  · rename_i hok
    unfold takeTo at h
    obtain ⟨k, hk, rfl⟩ := List.mem_map.1 h
    unfold takeOk at hok
    have := List.all_eq_true.1 hok k hk
    rw [Bool.and_eq_true, decide_eq_true_iff, decide_eq_true_iff] at this
    have hl : k.toNat < vss.length := by omega
    refine ⟨vss[k.toNat], List.getElem_mem hl, ?_⟩
    rw [List.getD_eq_getElem?_getD, List.getElem?_eq_getElem hl]
    rfl
  · simp at h
theorem take_lenD (vss : List (List Val)) (l : List Int) : (takeR vss l).1.length ≤ l.length := by
  unfold takeR
  split
  · unfold takeTo; simp
  · simp
theorem clean_fineD {v : Val} (h : v.s.size ≤ 9223372036854775807) : (clean v).s.size ≤ 9223372036854775807 := by
  have h2 : (clean v).s = v.s ∨ (clean v).s = .empty := by
    unfold clean
    split
    · exact .inr rfl
    · split
      · exact .inr rfl
      · split
        · exact .inl rfl
        · exact .inr rfl
  rcases h2 with e | e <;> rw [e]
  · exact h
  · decide
theorem clean_range {v : Val} (h : FineD v) : -9223372036854775808 ≤ (clean v).i ∧ (clean v).i ≤ 9223372036854775807 := by
  have h2 : (clean v).i = v.i ∨ (clean v).i = 0 := by
    unfold clean
    split
    · exact .inl rfl
    · split
      · exact .inr rfl
      · split
        · exact .inr rfl
        · exact .inr rfl
  have := h.2
  omega
def readC (a : Int) (vs : List Val) : Except Int Val := if (aggP a vs).2 = 1702 then .error 4 else if (aggP a vs).2 ≠ 0 then .error 5 else .ok (aggP a vs).1
def readB (t : Tb) (o : Opp) (l : List Int) : Except Int Val :=
  if o.cols.all (fun n => decide (0 ≤ idx (named n) t.s.cols)) = false then .error 5
  else if idx (named o.col) t.s.cols < 0 then .error 5
  else readC o.agg ((takeR t.rows l).1.map (pickC (idx (named o.col) t.s.cols).toNat))
theorem read_eq (t : Tb) (o : Opp) : readA t o = if o.kind ≠ 9 ∨ predB o.ns = false ∨ o.agg < 0 ∨ 4 < o.agg then .error 9 else match yesP t o.ns with | .error c => .error c | .ok l => readB t o l := rfl
set_option maxRecDepth 100000 in
set_option maxHeartbeats 16000000 in
theorem readAgg_any {w1 : World} (g D T O U : Nat) (t : TbA) (o : OpA) (x0 x1 x2 x3 x4 x5 x6 : Value) (w : World) (h : Doer w g D T O t o) (hu : Blk w U 59 [x0, x1, x2, x3, x4, x5, x6]) (ho : OpIn w1 o) [f1 : Fut w1 w] (hf : TbFine t) (hlen : t.rs.length ≤ 4096) (hrow : ∀ vs ∈ t.rs.map RowA.vs, vs.length = t.s.cols.length) (hfine : ∀ vs ∈ t.rs.map RowA.vs, ∀ v ∈ vs, FineD v) (hag : o.agg ≠ 0) :
    Calls Tryz.prog 75 #[.pointer (some ⟨D, 0, none⟩), .pointer (some ⟨U, 0, none⟩)] w fun e w' => ReadA U w (readA t.tb o.op) e w' := by
  have z1_ := f1.below.size
  have HD := hide h; have HU := hide hu
  have HSC := hide (h.own.r.tin hf).sch
  have HRW := hide hrow; have HFI := hide hfine
  have hcl := ho.clen; have hcc := ho.ccap
  have PM := fun (w' : World) [hq : Fut w w'] => haveI := Fut.tr f1 hq; ppred_any o.ns o.An o.cn w' ho.prd
  have YS := fun (w' : World) (hs : Fut w w') => yes_any (w1 := w1) g D T O t o w' h.fut ho (f1 := Fut.tr f1 hs) hf
  obtain ⟨R, hR⟩ : ∃ R, readA t.tb o.op = R := ⟨_, rfl⟩
  have HR := hide hR
  rw [hR]
  clear hR h hu hrow hfine
  obtain ⟨d0, d1⟩ := At.z2 (HD.out.d.fut (w' := w)).at0
  have ld := (HD.out.d.fut (w' := w)).lt
  obtain ⟨t0, t1, t2, t3, t4, t5⟩ := At.z6 (HD.out.tb.fut (w' := w)).at0
  have lt_ := (HD.out.tb.fut (w' := w)).lt
  have ft_ := (HD.out.tb.fut (w' := w)).free
  obtain ⟨o0, o1, o2, o3, o4, o5, o6, o7, o8, o9, o10, o11, o12, o13, o14, o15⟩ := At.zOp (HD.out.op.fut (w' := w)).at0
  have lo := (HD.out.op.fut (w' := w)).lt
  unfold TbA.cells at *
  by_cases hk : o.kind = 9
  · have hkb : (o.kind != 9) = false := bne_eq_false_iff_eq.2 hk
    cases hp : predB o.ns with
    | false =>
      have HE : Hid (R = .error 9) := by show _ = _; rw [← HR.out, readA, if_pos (show o.op.kind ≠ 9 ∨ predB o.op.ns = false ∨ o.op.agg < 0 ∨ 4 < o.op.agg from Or.inr (Or.inl (show predB o.op.ns = false from hp)))]
      rw [hp] at PM
      have PM := hide PM
      clear hp hk YS
      go_enter Tryz.func75, Tryz.ntmps75
      go_wp2_with (first | (go_at_call 123; (with_reducible refine (PM.out _).mono ?_); rintro e w3 ⟨rfl, hs3⟩; clear d0 d1 ld t0 t1 t2 t3 t4 t5 lt_ ft_ o0 o1 o2 o3 o4 o5 o6 o7 o8 o9 o10 o11 o12 o13 o14 o15 lo; obtain ⟨d0, d1⟩ := At.z2 (HD.out.d.fut (w' := w3)).at0; have ld := (HD.out.d.fut (w' := w3)).lt; obtain ⟨t0, t1, t2, t3, t4, t5⟩ := At.z6 (HD.out.tb.fut (w' := w3)).at0; have lt_ := (HD.out.tb.fut (w' := w3)).lt; have ft_ := (HD.out.tb.fut (w' := w3)).free; obtain ⟨o0, o1, o2, o3, o4, o5, o6, o7, o8, o9, o10, o11, o12, o13, o14, o15⟩ := At.zOp (HD.out.op.fut (w' := w3)).at0; have lo := (HD.out.op.fut (w' := w3)).lt) | (go_at_call 122; (with_reducible refine (throw_yes _ _).mono ?_); rintro e w9 ⟨rfl, h9⟩; obtain rfl := h9.symm))
      exact ⟨rfl, by rw [HE.out]; exact ⟨rfl, Step.of⟩⟩
    | true =>
      have HP := hide hp
      rw [hp] at PM
      have PM := hide PM
      clear hp
      by_cases ha : o.agg < 0
      · have HE : Hid (R = .error 9) := by show _ = _; rw [← HR.out, readA, if_pos (show o.op.kind ≠ 9 ∨ predB o.op.ns = false ∨ o.op.agg < 0 ∨ 4 < o.op.agg from Or.inr (Or.inr (Or.inl ha)))]
        have had : decide (o.agg < 0) = true := decide_eq_true ha
        clear hk YS ha
        go_enter Tryz.func75, Tryz.ntmps75
        go_wp2_with (first | (go_at_call 123; (with_reducible refine (PM.out _).mono ?_); rintro e w3 ⟨rfl, hs3⟩; clear d0 d1 ld t0 t1 t2 t3 t4 t5 lt_ ft_ o0 o1 o2 o3 o4 o5 o6 o7 o8 o9 o10 o11 o12 o13 o14 o15 lo; obtain ⟨d0, d1⟩ := At.z2 (HD.out.d.fut (w' := w3)).at0; have ld := (HD.out.d.fut (w' := w3)).lt; obtain ⟨t0, t1, t2, t3, t4, t5⟩ := At.z6 (HD.out.tb.fut (w' := w3)).at0; have lt_ := (HD.out.tb.fut (w' := w3)).lt; have ft_ := (HD.out.tb.fut (w' := w3)).free; obtain ⟨o0, o1, o2, o3, o4, o5, o6, o7, o8, o9, o10, o11, o12, o13, o14, o15⟩ := At.zOp (HD.out.op.fut (w' := w3)).at0; have lo := (HD.out.op.fut (w' := w3)).lt) | (go_at_call 122; (with_reducible refine (throw_yes _ _).mono ?_); rintro e w9 ⟨rfl, h9⟩; obtain rfl := h9.symm))
        exact ⟨rfl, by rw [HE.out]; exact ⟨rfl, Step.of⟩⟩
      · have had : decide (o.agg < 0) = false := decide_eq_false ha
        by_cases h4 : 4 < o.agg
        · have HE : Hid (R = .error 9) := by show _ = _; rw [← HR.out, readA, if_pos (show o.op.kind ≠ 9 ∨ predB o.op.ns = false ∨ o.op.agg < 0 ∨ 4 < o.op.agg from Or.inr (Or.inr (Or.inr h4)))]
          have h4d : decide (4 < o.agg) = true := decide_eq_true h4
          clear hk YS
          go_enter Tryz.func75, Tryz.ntmps75
          go_wp2_with (first | (go_at_call 123; (with_reducible refine (PM.out _).mono ?_); rintro e w3 ⟨rfl, hs3⟩; clear d0 d1 ld t0 t1 t2 t3 t4 t5 lt_ ft_ o0 o1 o2 o3 o4 o5 o6 o7 o8 o9 o10 o11 o12 o13 o14 o15 lo; obtain ⟨d0, d1⟩ := At.z2 (HD.out.d.fut (w' := w3)).at0; have ld := (HD.out.d.fut (w' := w3)).lt; obtain ⟨t0, t1, t2, t3, t4, t5⟩ := At.z6 (HD.out.tb.fut (w' := w3)).at0; have lt_ := (HD.out.tb.fut (w' := w3)).lt; have ft_ := (HD.out.tb.fut (w' := w3)).free; obtain ⟨o0, o1, o2, o3, o4, o5, o6, o7, o8, o9, o10, o11, o12, o13, o14, o15⟩ := At.zOp (HD.out.op.fut (w' := w3)).at0; have lo := (HD.out.op.fut (w' := w3)).lt) | (go_at_call 122; (with_reducible refine (throw_yes _ _).mono ?_); rintro e w9 ⟨rfl, h9⟩; obtain rfl := h9.symm))
          exact ⟨rfl, by rw [HE.out]; exact ⟨rfl, Step.of⟩⟩
        · have h4d : decide (4 < o.agg) = false := decide_eq_false h4
          have HR1 : Hid ((match yesP t.tb o.ns with
            | .error c => .error c
            | .ok l => readB t.tb o.op l) = R) := by
            show _ = _
            rw [← HR.out, read_eq, if_neg (show ¬ (o.op.kind ≠ 9 ∨ predB o.op.ns = false ∨ o.op.agg < 0 ∨ 4 < o.op.agg) by rintro (hh | hh | hh | hh); exact hh hk; (rw [show predB o.op.ns = true from HP.out] at hh; cases hh); exact ha hh; exact h4 hh)]
            rfl
          clear HR hk
          cases hy : yesP t.tb o.ns with
          | error c =>
            have HE : Hid (R = .error c) := by show _ = _; rw [← HR1.out, hy]
            rw [hy] at YS
            have YS := hide YS
            clear hy
            go_enter Tryz.func75, Tryz.ntmps75
            go_wp2_with (first | (go_at_call 123; (with_reducible refine (PM.out _).mono ?_); rintro e w3 ⟨rfl, hs3⟩; clear d0 d1 ld t0 t1 t2 t3 t4 t5 lt_ ft_ o0 o1 o2 o3 o4 o5 o6 o7 o8 o9 o10 o11 o12 o13 o14 o15 lo; obtain ⟨d0, d1⟩ := At.z2 (HD.out.d.fut (w' := w3)).at0; have ld := (HD.out.d.fut (w' := w3)).lt; obtain ⟨t0, t1, t2, t3, t4, t5⟩ := At.z6 (HD.out.tb.fut (w' := w3)).at0; have lt_ := (HD.out.tb.fut (w' := w3)).lt; have ft_ := (HD.out.tb.fut (w' := w3)).free; obtain ⟨o0, o1, o2, o3, o4, o5, o6, o7, o8, o9, o10, o11, o12, o13, o14, o15⟩ := At.zOp (HD.out.op.fut (w' := w3)).at0; have lo := (HD.out.op.fut (w' := w3)).lt) | (go_at_call 122; (with_reducible refine (throw_no _ _).mono ?_); rintro e w9 ⟨rfl, h9⟩; obtain rfl := h9.symm) | (go_at_call 124; (with_reducible refine (YS.out _ inferInstance).mono ?_); rintro e w4 ⟨rfl, hs4⟩))
            exact ⟨rfl, by rw [HE.out]; exact ⟨rfl, Step.of⟩⟩
          | ok l =>
            have HR2 : Hid (readB t.tb o.op l = R) := by show _ = _; rw [← HR1.out, hy]
            have HLL : Hid (l.length ≤ t.rs.length) := by
              show _ ≤ _
              unfold yesP at hy
              split at hy
              · cases hy
              · injection hy with hy
                rw [← hy]
                have := yesTo_bd o.ns t.s (t.rs.map RowA.vs)
                rw [List.length_map] at this
                exact this
            rw [hy] at YS
            have YS := hide YS
            clear hy HR1
            have hab : (o.agg == 0) = false := beq_eq_false_iff_ne.2 hag
            go_enter Tryz.func75, Tryz.ntmps75
            go_wp2_with (first | (go_at_call 123; (with_reducible refine (PM.out _).mono ?_); rintro e w3 ⟨rfl, hs3⟩; clear d0 d1 ld t0 t1 t2 t3 t4 t5 lt_ ft_ o0 o1 o2 o3 o4 o5 o6 o7 o8 o9 o10 o11 o12 o13 o14 o15 lo; obtain ⟨d0, d1⟩ := At.z2 (HD.out.d.fut (w' := w3)).at0; have ld := (HD.out.d.fut (w' := w3)).lt; obtain ⟨t0, t1, t2, t3, t4, t5⟩ := At.z6 (HD.out.tb.fut (w' := w3)).at0; have lt_ := (HD.out.tb.fut (w' := w3)).lt; have ft_ := (HD.out.tb.fut (w' := w3)).free; obtain ⟨o0, o1, o2, o3, o4, o5, o6, o7, o8, o9, o10, o11, o12, o13, o14, o15⟩ := At.zOp (HD.out.op.fut (w' := w3)).at0; have lo := (HD.out.op.fut (w' := w3)).lt) | (go_at_call 122; (with_reducible refine (throw_no _ _).mono ?_); rintro e w9 ⟨rfl, h9⟩; obtain rfl := h9.symm) | (go_at_call 124; (with_reducible refine (YS.out _ inferInstance).mono ?_); rintro e w4 ⟨⟨A4, c4, rfl, ho4⟩, hs4⟩; have HO4 := hide ho4; clear ho4; clear d0 d1 ld t0 t1 t2 t3 t4 t5 lt_ ft_ o0 o1 o2 o3 o4 o5 o6 o7 o8 o9 o10 o11 o12 o13 o14 o15 lo; obtain ⟨d0, d1⟩ := At.z2 (HD.out.d.fut (w' := w4)).at0; have ld := (HD.out.d.fut (w' := w4)).lt; obtain ⟨t0, t1, t2, t3, t4, t5⟩ := At.z6 (HD.out.tb.fut (w' := w4)).at0; have lt_ := (HD.out.tb.fut (w' := w4)).lt; have ft_ := (HD.out.tb.fut (w' := w4)).free; obtain ⟨o0, o1, o2, o3, o4, o5, o6, o7, o8, o9, o10, o11, o12, o13, o14, o15⟩ := At.zOp (HD.out.op.fut (w' := w4)).at0; have lo := (HD.out.op.fut (w' := w4)).lt))
            clear d0 d1 ld t0 t1 t2 t3 t4 t5 lt_ ft_ o0 o1 o2 o3 o4 o5 o6 o7 o8 o9 o10 o11 o12 o13 o14 o15 lo
            obtain ⟨wy, hwy⟩ : ∃ x : World, x = w4 := ⟨_, rfl⟩
            rw [← hwy] at hs4 HO4 ⊢
            clear hwy
            go_loopw [7, 55] (fun _ i wr => ∃ k : Nat, k ≤ o.cols.length ∧ i = .int .i64 k ∧ Hid ((o.cols.take k).all (fun n => decide (0 ≤ idx (named n) t.s.cols)) = true) ∧ Step wy wr) (fun _ i _ => o.cols.length - (intOf i).toNat)
            case atStart => exact ⟨0, Nat.zero_le _, rfl, rfl, Step.of⟩
            case round =>
              obtain ⟨k, hk, rfl, HAL, hst⟩ := hrel
              obtain ⟨wo, rfl⟩ : ∃ x : World, x = wr := ⟨_, rfl⟩
              have hzo := hst.size
              have hzy : w.heap.size ≤ wy.heap.size := (fut w wy).size
              by_cases hlt : k < o.cols.length
              · haveI f3 : Fut w1 wo := Fut.tr f1 (Fut.mk' (fut w wo))
                obtain ⟨b, off, hA, hb, hc⟩ := ho.cols.elem (w' := wo) f3 (k := k) (by simpa [strCells] using hlt)
                obtain ⟨nm, hnm⟩ : ∃ nm, o.cols[k]? = some nm := ⟨_, List.getElem?_eq_getElem hlt⟩
                have n0 := At.l1 (hc k [.string nm] (by simp [strCells, hnm]))
                simp only [Nat.mul_one] at n0
                have hkl : (k : Int) < (o.cols.length : Int) := by omega
                have hk0 : (0 : Int) ≤ (k : Int) := by omega
                have hlb : b < wo.heap.size := by omega
                obtain ⟨x, hx⟩ : ∃ x, idx (named nm) t.s.cols = x := ⟨_, rfl⟩
                have FD : Hid (∀ (w' : World), Fut w w' → Calls Tryz.prog 125 #[.agg #[.int .i64 t.s.id, .slice t.As t.s.cols.length t.cs, .int .i64 t.s.next], .string nm] w' fun e w'' => e = .returned (.int .i64 x) ∧ Step w' w'') := fun w' hq => by
                  have := ((HSC.out.below hq.below).find nm)
                  rw [hx] at this
                  exact this.mono fun e w'' h => ⟨h.1, ⟨h.2⟩⟩
                rw [hA]
                obtain ⟨d0, d1⟩ := At.z2 (HD.out.d.fut (w' := wo)).at0
                have ld := (HD.out.d.fut (w' := wo)).lt
                obtain ⟨t0, t1, t2, t3, t4, t5⟩ := At.z6 (HD.out.tb.fut (w' := wo)).at0
                have lt_ := (HD.out.tb.fut (w' := wo)).lt
                have ft_ := (HD.out.tb.fut (w' := wo)).free
                obtain ⟨o0, o1, o2, o3, o4, o5, o6, o7, o8, o9, o10, o11, o12, o13, o14, o15⟩ := At.zOp (HD.out.op.fut (w' := wo)).at0
                have lo := (HD.out.op.fut (w' := wo)).lt
                rw [hA] at o2
                have HAA := hide hA
                have HNM := hide hnm; have HX := hide hx
                clear hc hnm hx hA
                by_cases hx0 : x < 0
                · have HB : Hid (o.cols.all (fun n => decide (0 ≤ idx (named n) t.s.cols)) = false) := by
                    show _ = _
                    cases e : o.cols.all (fun n => decide (0 ≤ idx (named n) t.s.cols)) with
                    | false => rfl
                    | true =>
                      have := List.all_eq_true.1 e nm (List.mem_of_getElem? HNM.out)
                      rw [HX.out, decide_eq_true_iff] at this
                      omega
                  have HE : Hid (R = .error 5) := by show _ = _; rw [← HR2.out, readB, if_pos (show o.op.cols.all (fun n => decide (0 ≤ idx (named n) t.tb.s.cols)) = false from HB.out)]
                  have hxd : decide (x < 0) = true := decide_eq_true hx0
                  go_wp2_with (first | (go_at_call 125; (with_reducible refine (FD.out _ inferInstance).mono ?_); rintro e w5 ⟨rfl, hs5⟩) | (go_at_call 122; (with_reducible refine (throw_yes _ _).mono ?_); rintro e w9 ⟨rfl, h9⟩; obtain rfl := h9.symm))
                  exact ⟨rfl, by rw [HE.out]; exact ⟨rfl, Step.of⟩⟩
                · have HAL2 : Hid ((o.cols.take (k + 1)).all (fun n => decide (0 ≤ idx (named n) t.s.cols)) = true) := by
                    show _ = _
                    rw [List.take_add_one, HNM.out, List.all_append, HAL.out]
                    simp [HX.out]
                    omega
                  have hxd : decide (x < 0) = false := decide_eq_false hx0
                  go_wp2_with (first | (go_at_call 125; (with_reducible refine (FD.out _ inferInstance).mono ?_); rintro e w5 ⟨rfl, hs5⟩) | (go_at_call 122; (with_reducible refine (throw_no _ _).mono ?_); rintro e w9 ⟨rfl, h9⟩; obtain rfl := h9.symm))
                  go_roundw
                  case rel => exact ⟨k + 1, by omega, by go_num, HAL2.out, Step.of⟩
                  case measure => simp [intOf]; omega
              · obtain rfl : k = o.cols.length := by omega
                have HALL : Hid (o.cols.all (fun n => decide (0 ≤ idx (named n) t.s.cols)) = true) := by
                  show _ = _
                  have := HAL.out
                  rwa [List.take_length] at this
                have HR3 : Hid ((if idx (named o.col) t.s.cols < 0 then .error 5 else readC o.agg ((takeR (t.rs.map RowA.vs) l).1.map (pickC (idx (named o.col) t.s.cols).toNat))) = R) := by
                  show _ = _
                  rw [← HR2.out, readB, if_neg (show ¬ o.op.cols.all (fun n => decide (0 ≤ idx (named n) t.tb.s.cols)) = false by rw [show o.op.cols.all (fun n => decide (0 ≤ idx (named n) t.tb.s.cols)) = true from HALL.out]; simp)]
                  rfl
                have TK := hide (fun (w' : World) [hq : Fut wo w'] => haveI : Fut wy w' := Fut.tr ⟨hst.below⟩ hq; ptake_any (w0 := wo) (w1 := wy) t.rs t.Ar t.cr l A4 c4 w' ((HD.out.own.fut (w' := wo)).r.tin hf).rows (HO4.out.sl (int_fit _).len) (by have := HLL.out; omega))
                obtain ⟨x, hx⟩ : ∃ x, idx (named o.col) t.s.cols = x := ⟨_, rfl⟩
                have FC : Hid (∀ (w' : World), Fut w w' → Calls Tryz.prog 125 #[.agg #[.int .i64 t.s.id, .slice t.As t.s.cols.length t.cs, .int .i64 t.s.next], .string o.col] w' fun e w'' => e = .returned (.int .i64 x) ∧ Step w' w'') := fun w' hq => by
                  have := ((HSC.out.below hq.below).find o.col)
                  rw [hx] at this
                  exact this.mono fun e w'' h => ⟨h.1, ⟨h.2⟩⟩
                have HXB : Hid (x < (t.s.cols.length : Int)) := by show _ < _; have := (idx_bd (named o.col) t.s.cols).2; omega
                rw [hx] at HR3
                obtain ⟨d0, d1⟩ := At.z2 (HD.out.d.fut (w' := wo)).at0
                have ld := (HD.out.d.fut (w' := wo)).lt
                obtain ⟨t0, t1, t2, t3, t4, t5⟩ := At.z6 (HD.out.tb.fut (w' := wo)).at0
                have lt_ := (HD.out.tb.fut (w' := wo)).lt
                have ft_ := (HD.out.tb.fut (w' := wo)).free
                obtain ⟨o0, o1, o2, o3, o4, o5, o6, o7, o8, o9, o10, o11, o12, o13, o14, o15⟩ := At.zOp (HD.out.op.fut (w' := wo)).at0
                have lo := (HD.out.op.fut (w' := wo)).lt
                clear hx
                by_cases hx0 : x < 0
                · have HE : Hid (R = .error 5) := by show _ = _; rw [← HR3.out, if_pos hx0]
                  have hxd : decide (x < 0) = true := decide_eq_true hx0
                  go_upto_region 15 with (go_at_call 126; (with_reducible refine (TK.out _).mono ?_); rintro e w6 ⟨A6, c6, os, hos, rfl, ho6, hs6⟩; have HO6 := hide ho6; have HOS := hide hos; clear ho6 hos; clear d0 d1 ld t0 t1 t2 t3 t4 t5 lt_ ft_ o0 o1 o2 o3 o4 o5 o6 o7 o8 o9 o10 o11 o12 o13 o14 o15 lo; obtain ⟨d0, d1⟩ := At.z2 (HD.out.d.fut (w' := w6)).at0; have ld := (HD.out.d.fut (w' := w6)).lt; obtain ⟨t0, t1, t2, t3, t4, t5⟩ := At.z6 (HD.out.tb.fut (w' := w6)).at0; have lt_ := (HD.out.tb.fut (w' := w6)).lt; have ft_ := (HD.out.tb.fut (w' := w6)).free; obtain ⟨o0, o1, o2, o3, o4, o5, o6, o7, o8, o9, o10, o11, o12, o13, o14, o15⟩ := At.zOp (HD.out.op.fut (w' := w6)).at0; have lo := (HD.out.op.fut (w' := w6)).lt)
                  refine wp_region_held_drew (S := (fun w' => Step w6 w' ∧ (∀ b o, b < w6.heap.size → w'.cell? ⟨b, o, none⟩ = w6.cell? ⟨b, o, none⟩))) (by kernel_rfl) (by (try dsimp only); (first | exact ⟨hS1, hS2⟩ | exact ⟨Step.of, (bcell (fut _ _)).1⟩)) (fun hHeld => ?_)
                  refine wT 0 133 (by assumption) ?_
                  refine wT 7 140 (by assumption) ?_
                  refine wT 1 134 (by assumption) ?_
                  refine wT 8 141 (by assumption) ?_
                  refine wT 2 135 (by assumption) ?_
                  refine wT 9 142 (by assumption) ?_
                  refine wT 3 136 (by assumption) ?_
                  refine wT 10 143 (by assumption) ?_
                  refine wT 4 137 (by assumption) ?_
                  refine wT 5 138 (by assumption) ?_
                  refine wT 6 139 (by assumption) ?_
                  refine wpAnyH_ready (rs := [11]) (by kernel_rfl) (by simp) ?_
                  refine AllReadyH.cons (o := ⟨some 144, _, _, _, _, _⟩) rfl (fun K hK => ?_) AllReadyH.nil
                  obtain ⟨hS1, hS2⟩ := hHeld
                  go_simp
                  (go_at_call 125; (with_reducible refine (FC.out _ inferInstance).mono ?_); rintro e w7 ⟨rfl, hs7⟩)
                  refine hK.out _ _ (by (try dsimp only); (first | exact ⟨hS1, hS2⟩ | exact ⟨Step.of, (bcell (fut _ _)).1⟩)) (fun hHeld => ?_)
                  clear hK K
                  (try simp only [Act.put, List.setIfInBounds_toArray, List.set_cons_zero, List.set_cons_succ])
                  refine wT 12 10 (by assumption) ?_
                  refine wpAnyH_done (by kernel_rfl) ?_ _
                  go_wp2_with (go_at_call 122; (with_reducible refine (throw_yes _ _).mono ?_); rintro e w9 ⟨rfl, h9⟩; obtain rfl := h9.symm)
                  exact ⟨rfl, by rw [HE.out]; exact ⟨rfl, Step.of⟩⟩
                · have hxd : decide (x < 0) = false := decide_eq_false hx0
                  obtain ⟨xn, rfl⟩ : ∃ xn : Nat, x = (xn : Int) := ⟨x.toNat, by omega⟩
                  have HR4 : Hid (readC o.agg ((takeR (t.rs.map RowA.vs) l).1.map (pickC xn)) = R) := by show _ = _; rw [← HR3.out, if_neg hx0]; rfl
                  go_upto_region 15 with (go_at_call 126; (with_reducible refine (TK.out _).mono ?_); rintro e w6 ⟨A6, c6, os, hos, rfl, ho6, hs6⟩; have HO6 := hide ho6; have HOS := hide hos; clear ho6 hos; clear d0 d1 ld t0 t1 t2 t3 t4 t5 lt_ ft_ o0 o1 o2 o3 o4 o5 o6 o7 o8 o9 o10 o11 o12 o13 o14 o15 lo; obtain ⟨d0, d1⟩ := At.z2 (HD.out.d.fut (w' := w6)).at0; have ld := (HD.out.d.fut (w' := w6)).lt; obtain ⟨t0, t1, t2, t3, t4, t5⟩ := At.z6 (HD.out.tb.fut (w' := w6)).at0; have lt_ := (HD.out.tb.fut (w' := w6)).lt; have ft_ := (HD.out.tb.fut (w' := w6)).free; obtain ⟨o0, o1, o2, o3, o4, o5, o6, o7, o8, o9, o10, o11, o12, o13, o14, o15⟩ := At.zOp (HD.out.op.fut (w' := w6)).at0; have lo := (HD.out.op.fut (w' := w6)).lt)
                  refine wp_region_held_drew (S := (fun w' => Step w6 w' ∧ (∀ b o, b < w6.heap.size → w'.cell? ⟨b, o, none⟩ = w6.cell? ⟨b, o, none⟩))) (by kernel_rfl) (by (try dsimp only); (first | exact ⟨hS1, hS2⟩ | exact ⟨Step.of, (bcell (fut _ _)).1⟩)) (fun hHeld => ?_)
                  refine wT 0 133 (by assumption) ?_
                  refine wT 7 140 (by assumption) ?_
                  refine wT 1 134 (by assumption) ?_
                  refine wT 8 141 (by assumption) ?_
                  refine wT 2 135 (by assumption) ?_
                  refine wT 9 142 (by assumption) ?_
                  refine wT 3 136 (by assumption) ?_
                  refine wT 10 143 (by assumption) ?_
                  refine wT 4 137 (by assumption) ?_
                  refine wT 5 138 (by assumption) ?_
                  refine wT 6 139 (by assumption) ?_
                  refine wpAnyH_ready (rs := [11]) (by kernel_rfl) (by simp) ?_
                  refine AllReadyH.cons (o := ⟨some 144, _, _, _, _, _⟩) rfl (fun K hK => ?_) AllReadyH.nil
                  obtain ⟨hS1, hS2⟩ := hHeld
                  go_simp
                  (go_at_call 125; (with_reducible refine (FC.out _ inferInstance).mono ?_); rintro e w7 ⟨rfl, hs7⟩)
                  refine hK.out _ _ (by (try dsimp only); (first | exact ⟨hS1, hS2⟩ | exact ⟨Step.of, (bcell (fut _ _)).1⟩)) (fun hHeld => ?_)
                  clear hK K
                  (try simp only [Act.put, List.setIfInBounds_toArray, List.set_cons_zero, List.set_cons_succ])
                  refine wT 12 10 (by assumption) ?_
                  refine wpAnyH_done (by kernel_rfl) ?_ _
                  go_wp2_with (go_at_call 122; (with_reducible refine (throw_no _ _).mono ?_); rintro e w9 ⟨rfl, h9⟩; obtain rfl := h9.symm)
                  have HOL : Hid (os.length ≤ 4096) := by
                    show _ ≤ _
                    have h1 := take_lenD (t.rs.map RowA.vs) l
                    have h2 := congrArg List.length HOS.out
                    rw [List.length_map] at h2
                    have h3 := HLL.out
                    omega
                  have hol := HOL.out
                  have HRI := hide (HO6.out.rin (by omega) (fun vs hvs => by
                    rw [HOS.out] at hvs
                    obtain ⟨x, hx, rfl⟩ := take_mem hvs
                    refine ⟨by rw [List.length_map]; exact (hf.vals x hx).1, fun v hv => ?_⟩
                    obtain ⟨u, hu, rfl⟩ := List.mem_map.1 hv
                    exact clean_fineD ((hf.vals x hx).2 u hu)))
                  have HRL : Hid (∀ r ∈ os, r.vs.length = t.s.cols.length) := fun r hr => by
                    have hm : r.vs ∈ os.map RowA.vs := List.mem_map.2 ⟨r, hr, rfl⟩
                    rw [HOS.out] at hm
                    obtain ⟨x, hx, he⟩ := take_mem hm
                    rw [he, List.length_map]
                    exact HRW.out x hx
                  obtain ⟨wq, hwq⟩ : ∃ x : World, x = w7 := ⟨_, rfl⟩
                  rw [← hwq] at hs7 ⊢
                  clear hwq
                  clear d0 d1 ld t0 t1 t2 t3 t4 t5 lt_ ft_ o0 o1 o2 o3 o4 o5 o6 o7 o8 o9 o10 o11 o12 o13 o14 o15 lo
                  go_loopw [11, 13, 150] (fun vv _ i wr => ∃ (k : Nat) (A' : Option Addr) (c' : Nat), k ≤ os.length ∧ i = .int .i64 k ∧ vv = .slice A' k c' ∧ Own wr wq.heap.size 36 4 (.slice A' k c') ((((os.map RowA.vs).take k).map (pickC xn)).map Val.cells) ∧ Step wq wr) (fun _ _ i _ => os.length - (intOf i).toNat)
                  case atStart => exact ⟨0, none, 0, Nat.zero_le _, rfl, rfl, Own.nil_ _ _ _ _, Step.of⟩
                  case round =>
                    obtain ⟨k, A', c', hk, rfl, rfl, hown, hst⟩ := hrel
                    have HO := hide hown; clear hown
                    obtain ⟨wz, rfl⟩ : ∃ x : World, x = wr := ⟨_, rfl⟩
                    have hzz := hst.size
                    by_cases hlt : k < os.length
                    · obtain ⟨b, off, hA, hb, r, hrk, hri, q0⟩ := HRI.out.row (w' := wz) inferInstance (k := k) hlt
                      have hcr := hri.hcap; have hcrm := hri.hcapm
                      have hrl := HRL.out r (List.mem_of_getElem? hrk)
                      have hxl : xn < r.vs.length := by have := HXB.out; omega
                      obtain ⟨v, hv⟩ : ∃ v, r.vs[xn]? = some v := ⟨_, List.getElem?_eq_getElem hxl⟩
                      have HTK2 : Hid (((os.map RowA.vs).take (k + 1)).map (pickC xn) = ((os.map RowA.vs).take k).map (pickC xn) ++ [v]) := by
                        show _ = _
                        rw [List.take_add_one, show (os.map RowA.vs)[k]? = some r.vs by simp [hrk]]
                        simp [pickC, List.getD_eq_getElem?_getD, hv]
                      have HLN : Hid (((((os.map RowA.vs).take k).map (pickC xn)).map Val.cells).length = k) := by show _ = _; simp; omega
                      have hkl : (k : Int) < (os.length : Int) := by omega
                      have hk0 : (0 : Int) ≤ (k : Int) := by omega
                      have hxl2 : (xn : Int) < (r.vs.length : Int) := by omega
                      have hx00 : (0 : Int) ≤ (xn : Int) := by omega
                      have hlb : b < wz.heap.size := by have := (fut w6 wz).size; omega
                      obtain ⟨W2, hW2⟩ : ∃ W2, W2 = wz.alloc (.cells #[.slice r.A r.vs.length r.cap] 67) := ⟨_, rfl⟩
                      have SW2 : Step wz W2 := by rw [hW2]; exact Step.of
                      have HRB : Hid (Blk W2 wz.heap.size 67 [.slice r.A r.vs.length r.cap]) := by rw [hW2]; exact Blk.new wz _ 67
                      have HW2 := hide hW2
                      have hzW2 := SW2.size
                      obtain ⟨b2, off2, hA2, hb2, hc2⟩ := hri.at_.elem (w' := W2) inferInstance (k := xn) (by simpa using hxl)
                      obtain ⟨v0, v1, v2, v3⟩ := At.l4 (hc2 xn v.cells (by simp [hv]))
                      have hlb2 : b2 < W2.heap.size := by have := (fut w6 W2).size; omega
                      have g0 := At.z1 HRB.out.at0
                      have lg := HRB.out.lt
                      rw [hA2] at g0
                      rw [hA]
                      have HAA := hide hA; have HAA2 := hide hA2
                      clear hW2 hrk hA hA2 hc2 hv hrl
                      go_upto_region 21 with fail
                      rw [HW2.out.symm]
                      clear q0
                      rw [HAA2.out]
                      go_wp2_with (at_builtin; have HOW := hide ((HO.out.fut (w' := W2)).alloc (.cells #[.int .i64 v.kind, .int .i64 v.i, .bool v.b, .string v.s] 36)); have HNew := hide (SlAt.one W2 4 [.int .i64 v.kind, .int .i64 v.i, .bool v.b, .string v.s] 36); go_loud (refine wpList_append_sl rfl (.tmp 154) (.tmp 160) 65 rfl eiV4 (base := wq.heap.size) (xs := (((os.map RowA.vs).take k).map (pickC xn)).map Val.cells) rfl HOW.out (vals_fit _) (ys := [[.int .i64 v.kind, .int .i64 v.i, .bool v.b, .string v.s]]) rfl (by simp) HNew.out (vals_fit [v]) (by rw [HLN.out]; show (k + 1) * 40 ≤ _; omega) (fut wq (W2.alloc (.cells #[.int .i64 v.kind, .int .i64 v.i, .bool v.b, .string v.s] 36))).size (N := k + 1) (by rw [HLN.out]; rfl) ?_; intro A7 c7 w9 hq1 hq2 hown7 hgr7 hbel7; have H7 := hide hown7; have hs9 : Step wq w9 := ⟨(fut wq (W2.alloc (.cells #[.int .i64 v.kind, .int .i64 v.i, .bool v.b, .string v.s] 36))).trans hbel7⟩; clear hown7 hgr7 hbel7))
                      go_roundw
                      case rel => exact ⟨k + 1, A7, c7, by omega, by go_num, rfl, by rw [HTK2.out, List.map_append]; exact H7.out, hs9⟩
                      case measure => simp [intOf]; omega
                    · obtain rfl : k = os.length := by omega
                      have HVS : Hid (((os.map RowA.vs).take os.length).map (pickC xn) = (takeR (t.rs.map RowA.vs) l).1.map (pickC xn)) := by show _ = _; rw [List.take_of_length_le (by simp), HOS.out]
                      rw [HVS.out] at HO
                      have HNV : Hid (((takeR (t.rs.map RowA.vs) l).1.map (pickC xn)).length = os.length) := by show _ = _; rw [← HOS.out]; simp
                      have AG : Hid (∀ (w' : World) [Fut wz w'], Calls Tryz.prog 130 #[.int .i64 o.agg, .slice A' os.length c'] w' fun e w'' => e = .returned (.tuple #[.agg #[.int .i64 (aggP o.agg ((takeR (t.rs.map RowA.vs) l).1.map (pickC xn))).1.kind, .int .i64 (aggP o.agg ((takeR (t.rs.map RowA.vs) l).1.map (pickC xn))).1.i, .bool (aggP o.agg ((takeR (t.rs.map RowA.vs) l).1.map (pickC xn))).1.b, .string (aggP o.agg ((takeR (t.rs.map RowA.vs) l).1.map (pickC xn))).1.s], .int .i64 (aggP o.agg ((takeR (t.rs.map RowA.vs) l).1.map (pickC xn))).2]) ∧ Step w' w'') := fun w' hq => by
                        have := aggOf_any (w0 := wz) o.agg ((takeR (t.rs.map RowA.vs) l).1.map (pickC xn)) A' c' w' (HO.out.sl (vals_fit _).len) (by rw [HNV.out]; omega) (fun v hv => by
                          obtain ⟨r, hr, rfl⟩ := List.mem_map.1 hv
                          obtain ⟨x, hx, rfl⟩ := take_mem hr
                          unfold pickC
                          rw [List.getD_eq_getElem?_getD]
                          cases e : (x.map clean)[xn]? with
                          | none => exact ⟨by decide, by decide⟩
                          | some u =>
                            obtain ⟨y, hy, rfl⟩ := List.mem_map.1 (List.mem_of_getElem? e)
                            exact clean_range (HFI.out x hx y hy))
                        rw [HNV.out] at this
                        exact this
                      obtain ⟨P, hP⟩ : ∃ P, aggP o.agg ((takeR (t.rs.map RowA.vs) l).1.map (pickC xn)) = P := ⟨_, rfl⟩
                      have HR5 : Hid ((if P.2 = 1702 then .error 4 else if P.2 ≠ 0 then .error 5 else .ok P.1) = R) := by show _ = _; rw [← HR4.out, readC, hP]
                      rw [hP] at AG
                      clear hP
                      obtain ⟨d0, d1⟩ := At.z2 (HD.out.d.fut (w' := wz)).at0
                      have ld := (HD.out.d.fut (w' := wz)).lt
                      obtain ⟨t0, t1, t2, t3, t4, t5⟩ := At.z6 (HD.out.tb.fut (w' := wz)).at0
                      have lt_ := (HD.out.tb.fut (w' := wz)).lt
                      have ft_ := (HD.out.tb.fut (w' := wz)).free
                      obtain ⟨o0, o1, o2, o3, o4, o5, o6, o7, o8, o9, o10, o11, o12, o13, o14, o15⟩ := At.zOp (HD.out.op.fut (w' := wz)).at0
                      have lo := (HD.out.op.fut (w' := wz)).lt
                      by_cases e1 : P.2 = 1702
                      · have HE : Hid (R = .error 4) := by show _ = _; rw [← HR5.out, if_pos e1]
                        have eb1 : (P.2 == 1702) = true := beq_iff_eq.2 e1
                        clear e1
                        go_wp2_with (first | (go_at_call 130; (with_reducible refine (AG.out _).mono ?_); rintro e w8 ⟨rfl, hs8⟩) | (go_at_call 122; (with_reducible refine (throw_yes _ _).mono ?_); rintro e w9 ⟨rfl, h9⟩; obtain rfl := h9.symm))
                        exact ⟨rfl, by rw [HE.out]; exact ⟨rfl, Step.of⟩⟩
                      · have eb1 : (P.2 == 1702) = false := beq_eq_false_iff_ne.2 e1
                        by_cases e2 : P.2 = 0
                        · have HE : Hid (R = .ok P.1) := by show _ = _; rw [← HR5.out, if_neg e1, if_neg (by simpa using e2)]
                          have eb2 : (P.2 != 0) = false := bne_eq_false_iff_eq.2 e2
                          clear e1
                          go_upto_region 26 with (first | (go_at_call 130; (with_reducible refine (AG.out _).mono ?_); rintro e w8 ⟨rfl, hs8⟩) | (go_at_call 122; (with_reducible refine (throw_no _ _).mono ?_); rintro e w9 ⟨rfl, h9⟩; obtain rfl := h9.symm))
                          obtain ⟨X, hX⟩ : ∃ x : World, x = w8.alloc (.cells #[.int .i64 P.1.kind, .int .i64 P.1.i, .bool P.1.b, .string P.1.s] 36) := ⟨_, rfl⟩
                          have SX : Step w8 X := by rw [hX]; exact Step.of
                          have HXB2 : Hid (Blk X w8.heap.size 36 [.int .i64 P.1.kind, .int .i64 P.1.i, .bool P.1.b, .string P.1.s]) := by rw [hX]; exact Blk.new w8 _ 36
                          rw [← hX]
                          clear hX
                          obtain ⟨y0, y1, y2, y3⟩ := At.z4 HXB2.out.at0
                          have ly := HXB2.out.lt
                          have ub := HU.out.fut (w' := X)
                          obtain ⟨u0, u1, u2, u3, u4, u5, u6⟩ := At.z7 ub.at0
                          have lu := ub.lt
                          have fu := ub.free
                          clear ub
                          go_wp2_with fail
                          go_end0
                          rw [HE.out]
                          exact ⟨rfl, X, Step.of, rfl⟩
                        · have HE : Hid (R = .error 5) := by show _ = _; rw [← HR5.out, if_neg e1, if_pos e2]
                          have eb2 : (P.2 != 0) = true := bne_iff_ne.2 e2
                          clear e1 e2
                          go_wp2_with (first | (go_at_call 130; (with_reducible refine (AG.out _).mono ?_); rintro e w8 ⟨rfl, hs8⟩) | (go_at_call 122; (with_reducible refine (throw_no _ _).mono ?_); rintro e w9 ⟨rfl, h9⟩; obtain rfl := h9.symm) | (go_at_call 122; (with_reducible refine (throw_yes _ _).mono ?_); rintro e w9 ⟨rfl, h9⟩; obtain rfl := h9.symm))
                          exact ⟨rfl, by rw [HE.out]; exact ⟨rfl, Step.of⟩⟩
  · have hkb : (o.kind != 9) = true := bne_iff_ne.2 hk
    have HE : Hid (R = .error 9) := by show _ = _; rw [← HR.out, readA, if_pos (show o.op.kind ≠ 9 ∨ predB o.op.ns = false ∨ o.op.agg < 0 ∨ 4 < o.op.agg from Or.inl hk)]
    clear hk YS PM
    go_enter Tryz.func75, Tryz.ntmps75
    go_wp2_with (go_at_call 122; (with_reducible refine (throw_yes _ _).mono ?_); rintro e w9 ⟨rfl, h9⟩; obtain rfl := h9.symm)
    exact ⟨rfl, by rw [HE.out]; exact ⟨rfl, Step.of⟩⟩
end Go.Proofs.YtnphokhehacfnaaGreatDoor

