/-
  Texts put together: Di, Dj, Dk.
-/
import Derived.Laws.Externs
import Derived.Test.YtnphokhehacfnaaGreatDoorCz03
import Derived.Test.YtnphokhehacfnaaGreatDoorCz05
import Derived.Test.YtnphokhehacfnaaGreatDoorCz09
import Derived.Test.YtnphokhehacfnaaGreatDoorCz10
namespace Go.Proofs.YtnphokhehacfnaaGreatDoor
open Go.RowKit

theorem run_adds (x y : Int) (hx : 0 ≤ x) (hy : 0 ≤ y) (w : World) :
    (callFunc 185 #[.int .u64 x, .int .u64 y, .int .u64 0]).run Tryz.prog w = .ok (.value (.tuple #[.int .u64 ((x + y) % 18446744073709551616), .int .u64 ((x + y) / 18446744073709551616)])) w := by
  rw [run_callFunc_extern Tryz.func185 (by kernel_rfl) (by kernel_rfl) (by kernel_rfl) (e := add64Entry) (by kernel_rfl), run_add64 x y 0 hx hy (by omega) (by omega)]
  simp only [Result.andThen, Int.add_zero]
/-- The two words of a sum, as numbers. -/
structure TwoI (s low high : Int) : Prop where
  lo0 : 0 ≤ low
  lo : low < 18446744073709551616
  hi0 : 0 ≤ high
  hi : high < 18446744073709551616
  eq : ∃ h : Int, s = h * 18446744073709551616 + low ∧ high = h % 18446744073709551616
theorem TwoI.add {s low high x l c hh v : Int} (h : TwoI s low high) (h1 : -9223372036854775808 ≤ v) (h2 : v ≤ 9223372036854775807) (hx : x = v % 18446744073709551616)
    (hl : l = (low + x) % 18446744073709551616) (hc : c = (low + x) / 18446744073709551616) (hhh : hh = (high + c + (if v < 0 then -1 else 0)) % 18446744073709551616) : TwoI (s + v) l hh := by
  obtain ⟨l0, lo, h0, hi, k, e1, e2⟩ := h
  have hn : ((low.toNat : Nat) : Int) = low := by omega
  refine ⟨by omega, by omega, by omega, by omega, k + c + (if v < 0 then -1 else 0), ?_, ?_⟩
  · by_cases hv : v < 0
    · rw [if_pos hv]; omega
    · rw [if_neg hv]; omega
  · rw [hhh, e2]
    by_cases hv : v < 0
    · rw [if_pos hv]; omega
    · rw [if_neg hv]; omega
theorem TwoI.fits {s low high : Int} (h : TwoI s low high) (hb : -170141183460469231731687303715884105728 ≤ s ∧ s ≤ 170141183460469231731687303715884105727) :
    (high = (if low ≥ 9223372036854775808 then 18446744073709551615 else 0)) ↔ (-9223372036854775808 ≤ s ∧ s ≤ 9223372036854775807) := by
  obtain ⟨l0, lo, h0, hi, k, e1, e2⟩ := h
  by_cases hl : low ≥ 9223372036854775808
  · rw [if_pos hl]
    constructor
    · intro he
      have : k = -1 := by omega
      subst this
      omega
    · intro he
      have : k = -1 := by omega
      subst this
      omega
  · rw [if_neg hl]
    constructor
    · intro he
      have : k = 0 := by omega
      subst this
      omega
    · intro he
      have : k = 0 := by omega
      subst this
      omega
theorem TwoI.val {s low high : Int} (h : TwoI s low high) (hf : -9223372036854775808 ≤ s ∧ s ≤ 9223372036854775807) : s = if low ≥ 9223372036854775808 then low - 18446744073709551616 else low := by
  obtain ⟨l0, lo, h0, hi, k, e1, e2⟩ := h
  split <;> omega
theorem sumP_bad {vs : List Val} {k : Nat} {v : Val} (hv : vs[k]? = some v) (h : badK v = true) : sumP vs = (Val.zero, 1701) := by
  rw [sumP, if_pos (List.any_eq_true.2 ⟨v, List.mem_of_getElem? hv, h⟩)]
theorem any_take_snoc {α : Type} {p : α → Bool} {l : List α} {k : Nat} {x : α} (hx : l[k]? = some x) : (l.take (k + 1)).any p = ((l.take k).any p || p x) := by
  rw [List.take_add_one, hx, List.any_append]
  simp
theorem u64w (x : Int) : IntKind.u64.wrap x = x % 18446744073709551616 := by simp [IntKind.wrap, IntKind.bits, IntKind.signed]
set_option maxRecDepth 100000 in
set_option maxHeartbeats 8000000 in
theorem sum_any {w0 : World} (vs : List Val) (A : Option Addr) (cap : Nat) (w : World) (h : SlAt w0 w0.heap.size 4 A (vs.map Val.cells)) [f0 : Fut w0 w] (hl : vs.length ≤ 3518437208780) (hr : ∀ v ∈ vs, -9223372036854775808 ≤ v.i ∧ v.i ≤ 9223372036854775807) :
    Calls Tryz.prog 163 #[.slice A vs.length cap] w fun e w' => e = .returned (.tuple #[(sumP vs).1.ag, .int .i64 (sumP vs).2]) ∧ Step w w' := by
  have z0_ := f0.below.size
  have HRG := hide hr
  clear hr
  obtain ⟨W, hW⟩ : ∃ W, W = w.alloc (.cells #[.int .i64 0, .int .i64 0, .bool false, .string ⟨#[]⟩] 36) := ⟨_, rfl⟩
  have SW : Step w W := by rw [hW]; exact Step.of
  have HR0 : Hid (Blk W w.heap.size 36 [.int .i64 0, .int .i64 0, .bool false, .string ⟨#[]⟩]) := by rw [hW]; exact Blk.new w _ 36
  have HW := hide hW
  clear hW
  have NB := hide (fun n w' => number_any n w')
  go_enter Tryz.func163, Tryz.ntmps163
  go_upto_region 2 with fail
  rw [← HW.out]
  go_wp2_with fail
  go_loopw [4, 5, 6, 8, 9, 12] (fun lo hi some_ _ _ i wr => ∃ (k : Nat) (low high : Int), k ≤ vs.length ∧ lo = .int .u64 low ∧ hi = .int .u64 high ∧ some_ = .bool ((vs.take k).any someK) ∧ i = .int .i64 k ∧ Hid ((vs.take k).any badK = false) ∧ Hid (TwoI (sumI (vs.take k)) low high) ∧ Step W wr) (fun _ _ _ _ _ i _ => vs.length - (intOf i).toNat)
  case atStart => exact ⟨0, 0, 0, Nat.zero_le _, rfl, rfl, rfl, rfl, rfl, ⟨by decide, by decide, by decide, by decide, 0, by simp [sumI], by decide⟩, Step.of⟩
  case round =>
    obtain ⟨k, low, high, hk, rfl, rfl, rfl, rfl, HB, HT, hst⟩ := hrel
    obtain ⟨wo, rfl⟩ : ∃ x : World, x = wr := ⟨_, rfl⟩
    have hzo := hst.size
    have HRES := hide (HR0.out.fut (w' := wo))
    have hlo0 := HT.out.lo0; have hlo := HT.out.lo
    have hhi0 := HT.out.hi0; have hhi := HT.out.hi
    have hzW := SW.size
    by_cases hlt : k < vs.length
    · obtain ⟨b, off, hA, hb, hc⟩ := h.elem (w' := wo) inferInstance (k := k) (by simpa using hlt)
      obtain ⟨v, hv⟩ : ∃ v, vs[k]? = some v := ⟨_, List.getElem?_eq_getElem hlt⟩
      obtain ⟨v0, v1, v2, v3⟩ := At.l4 (hc k v.cells (by simp [hv]))
      have hkl : (k : Int) < (vs.length : Int) := by omega
      have hk0 : (0 : Int) ≤ (k : Int) := by omega
      have hlb : b < wo.heap.size := by omega
      have HV := hide hv
      obtain ⟨W2, hW2⟩ : ∃ y : World, y = wo.alloc (.cells #[.int .i64 v.kind, .int .i64 v.i, .bool v.b, .string v.s] 36) := ⟨_, rfl⟩
      have SW2 : Step wo W2 := by rw [hW2]; exact Step.of
      have HV2 : Hid (Blk W2 wo.heap.size 36 [.int .i64 v.kind, .int .i64 v.i, .bool v.b, .string v.s]) := by rw [hW2]; exact Blk.new wo _ 36
      have HW2 := hide hW2
      rw [hA]
      clear hc hv hA hW2
      go_upto_region 5 with fail
      rw [HW2.out.symm]
      clear v0 v1 v2 v3
      obtain ⟨g0, g1, g2, g3⟩ := At.z4 HV2.out.at0
      have lg := HV2.out.lt
      by_cases h0 : v.kind = 0
      · have g0_ : (v.kind == 0) = true := by rw [h0]; rfl
        have HS : Hid ((vs.take (k + 1)).any someK = (vs.take k).any someK) := by show _ = _; rw [any_take_snoc HV.out, someK, h0]; simp
        have HB2 : Hid ((vs.take (k + 1)).any badK = false) := by show _ = _; rw [any_take_snoc HV.out, HB.out, badK, h0]; rfl
        have HT2 : Hid (TwoI (sumI (vs.take (k + 1))) low high) := by
          show TwoI _ _ _
          rw [List.take_add_one, HV.out]
          simp only [Option.toList_some]
          rw [sumI_snoc, if_pos h0, Int.add_zero]
          exact HT.out
        clear h0
        go_wp2_with fail
        go_roundw
        case rel => exact ⟨k + 1, low, high, by omega, rfl, rfl, by rw [HS.out], by go_num, HB2.out, HT2.out, Step.of⟩
        case measure => simp [intOf]; omega
      · have g0_ : (v.kind == 0) = false := beq_eq_false_iff_ne.2 h0
        by_cases h1 : v.kind = 1
        · have g1_ : (v.kind != 1) = false := by rw [h1]; rfl
          have HS : Hid ((vs.take (k + 1)).any someK = true) := by show _ = _; rw [any_take_snoc HV.out, someK, h1]; simp
          have HB2 : Hid ((vs.take (k + 1)).any badK = false) := by show _ = _; rw [any_take_snoc HV.out, HB.out, badK, h1]; rfl
          have hvr := HRG.out v (List.mem_of_getElem? HV.out)
          have HVR := hide hvr
          have hvr1 := hvr.1; have hvr2 := hvr.2
          have HKI : Hid (sumI (vs.take (k + 1)) = sumI (vs.take k) + v.i) := by
            show _ = _
            rw [List.take_add_one, HV.out]
            simp only [Option.toList_some]
            rw [sumI_snoc, if_neg h0]
          obtain ⟨x, hx⟩ : ∃ x : Int, x = IntKind.u64.wrap v.i := ⟨_, rfl⟩
          have hx' : x = v.i % 18446744073709551616 := by rw [hx]; simp [IntKind.wrap, IntKind.bits, IntKind.signed]
          have hx0 : 0 ≤ x := by omega
          have HX := hide hx'
          have HA64 := fun w => run_adds low x hlo0 hx0 w
          rw [hx] at HA64
          clear h0 h1 hvr hx hx'
          go_wp2_with fail
          go_roundw
          case rel =>
            refine ⟨k + 1, _, _, by omega, rfl, rfl, by rw [HS.out], by go_num, HB2.out, ?_, Step.of⟩
            show TwoI _ _ _
            rw [HKI.out]
            exact HT.out.add hvr1 hvr2 (u64w _) rfl rfl (by simp only [u64w]; split <;> omega)
          case measure => simp [intOf]; omega
        · have g1_ : (v.kind != 1) = true := bne_iff_ne.2 h1
          have HE := hide (sumP_bad HV.out (show badK v = true by rw [badK, bne_iff_ne.2 h0, bne_iff_ne.2 h1]; rfl))
          clear h0 h1
          obtain ⟨r0, r1, r2, r3⟩ := At.z4 (HRES.out.fut (w' := W2)).at0
          have lr := (HRES.out.fut (w' := W2)).lt
          have fr := (HRES.out.fut (w' := W2)).free
          go_wp2_with fail
          refine bodyPost_ret (v := .tuple #[.agg #[.int .i64 0, .int .i64 0, .bool false, .string ⟨#[]⟩], .int .i64 1701]) (by simp [results, Tryz.results163, go_sem, r0, r1, r2, r3]) rfl ?_
          exact ⟨by rw [HE.out]; rfl, Step.of⟩
    · obtain rfl : k = vs.length := by omega
      rw [List.take_length] at HB HT
      obtain ⟨r0, r1, r2, r3⟩ := At.z4 (HRES.out.fut (w' := wo)).at0
      have lr := (HRES.out.fut (w' := wo)).lt
      have fr := (HRES.out.fut (w' := wo)).free
      have HNB := HB
      have hsb := sumI_bd (vs := vs) (fun v hv => HRG.out v hv)
      cases hs : vs.any someK with
      | false =>
        have hs_ : (vs.take vs.length).any someK = false := by rw [List.take_length]; exact hs
        have HE : Hid (sumP vs = (Val.zero, 0)) := by show _ = _; rw [sumP, HNB.out, hs]; rfl
        clear hsb
        go_wp2_with fail
        refine bodyPost_ret (v := .tuple #[.agg #[.int .i64 0, .int .i64 0, .bool false, .string ⟨#[]⟩], .int .i64 0]) (by simp [results, Tryz.results163, go_sem, r0, r1, r2, r3]) rfl ?_
        exact ⟨by rw [HE.out]; rfl, Step.of⟩
      | true =>
        have hlq : IntKind.u64.wrap (wrap64 low / 9223372036854775808) = if low ≥ 9223372036854775808 then 18446744073709551615 else 0 := by
          rw [u64w, wrap64]
          split <;> omega
        have hs_ : (vs.take vs.length).any someK = true := by rw [List.take_length]; exact hs
        by_cases hf : -9223372036854775808 ≤ sumI vs ∧ sumI vs ≤ 9223372036854775807
        · have HE : Hid (sumP vs = (⟨1, sumI vs, false, .empty⟩, 0)) := by show _ = _; rw [sumP, HNB.out, hs, if_neg (by simp), if_neg (by simp), if_pos hf]
          have hfi := (HT.out.fits (by omega)).2 hf
          have hval := HT.out.val hf
          have hq : (high != IntKind.u64.wrap (wrap64 low / 9223372036854775808)) = false := by rw [hlq, bne_eq_false_iff_eq]; exact hfi
          have hw : wrap64 low = sumI vs := by rw [hval, wrap64]; split <;> omega
          have NB2 : Hid (∀ w', Calls Tryz.prog 162 #[.int .i64 (wrap64 low)] w' fun e w'' => e = .returned (.agg #[.int .i64 1, .int .i64 (sumI vs), .bool false, .string ⟨#[]⟩]) ∧ Step w' w'') := by rw [hw]; exact fun w' => NB.out _ w'
          clear hfi hval hlq hw hf hsb
          go_wp2_with (go_at_call 162; (with_reducible refine (NB2.out _).mono ?_); rintro e w7 ⟨rfl, hs7⟩; clear r0 r1 r2 r3 lr fr; obtain ⟨r0, r1, r2, r3⟩ := At.z4 (HRES.out.fut (w' := w7)).at0; have lr := (HRES.out.fut (w' := w7)).lt; have fr := (HRES.out.fut (w' := w7)).free)
          refine bodyPost_ret (v := .tuple #[.agg #[.int .i64 1, .int .i64 (sumI vs), .bool false, .string ⟨#[]⟩], .int .i64 0]) (by simp [results, Tryz.results163, go_sem, r0, r1, r2, r3]) rfl ?_
          exact ⟨by rw [HE.out]; rfl, Step.of⟩
        · have HE : Hid (sumP vs = (Val.zero, 1702)) := by show _ = _; rw [sumP, HNB.out, hs, if_neg (by simp), if_neg (by simp), if_neg hf]
          have hfi : ¬ high = (if low ≥ 9223372036854775808 then 18446744073709551615 else 0) := fun hh => hf ((HT.out.fits (by omega)).1 hh)
          have hq : (high != IntKind.u64.wrap (wrap64 low / 9223372036854775808)) = true := by rw [hlq, bne_iff_ne]; exact hfi
          clear hfi hlq hf hsb
          go_wp2_with fail
          refine bodyPost_ret (v := .tuple #[.agg #[.int .i64 0, .int .i64 0, .bool false, .string ⟨#[]⟩], .int .i64 1702]) (by simp [results, Tryz.results163, go_sem, r0, r1, r2, r3]) rfl ?_
          exact ⟨by rw [HE.out]; rfl, Step.of⟩
end Go.Proofs.YtnphokhehacfnaaGreatDoor

namespace Go.Proofs.YtnphokhehacfnaaGreatDoor
open Go.RowKit

set_option maxRecDepth 100000 in
set_option maxHeartbeats 16000000 in
theorem aggOf_any {w0 : World} (kd : Int) (vs : List Val) (A : Option Addr) (cap : Nat) (w : World) (h : SlAt w0 w0.heap.size 4 A (vs.map Val.cells)) [f0 : Fut w0 w] (hl : vs.length ≤ 3518437208780) (hr : ∀ v ∈ vs, -9223372036854775808 ≤ v.i ∧ v.i ≤ 9223372036854775807) :
    Calls Tryz.prog 130 #[.int .i64 kd, .slice A vs.length cap] w fun e w' => e = .returned (.tuple #[(aggP kd vs).1.ag, .int .i64 (aggP kd vs).2]) ∧ Step w w' := by
  have z0_ := f0.below.size
  have HRG : Hid (∀ v ∈ vs.map clean, -9223372036854775808 ≤ v.i ∧ v.i ≤ 9223372036854775807) := by
    intro v hv
    obtain ⟨u, hu, rfl⟩ := List.mem_map.1 hv
    have := hr u hu
    have h2 : (clean u).i = u.i ∨ (clean u).i = 0 := by
      unfold clean
      split
      · exact .inl rfl
      · split
        · exact .inr rfl
        · split
          · exact .inr rfl
          · exact .inr rfl
    omega
  clear hr
  obtain ⟨W, hW⟩ : ∃ W, W = w.alloc (.cells #[.int .i64 0, .int .i64 0, .bool false, .string ⟨#[]⟩] 36) := ⟨_, rfl⟩
  have SW : Step w W := by rw [hW]; exact Step.of
  have HR0 : Hid (Blk W w.heap.size 36 [.int .i64 0, .int .i64 0, .bool false, .string ⟨#[]⟩]) := by rw [hW]; exact Blk.new w _ 36
  have HW := hide hW
  clear hW
  have hzW := SW.size
  go_enter Tryz.func130, Tryz.ntmps130
  go_upto_region 2 with fail
  rw [← HW.out]
  go_wp2_with fail
  go_loopw [6, 8, 12] (fun all _ i wr => ∃ (k : Nat) (A' : Option Addr) (c' : Nat), k ≤ vs.length ∧ i = .int .i64 k ∧ all = .slice A' k c' ∧ Own wr W.heap.size 36 4 (.slice A' k c') (((vs.take k).map clean).map Val.cells) ∧ Step W wr) (fun _ _ i _ => vs.length - (intOf i).toNat)
  case atStart => exact ⟨0, none, 0, Nat.zero_le _, rfl, rfl, Own.nil_ _ _ _ _, Step.of⟩
  case round =>
    obtain ⟨k, A', c', hk, rfl, rfl, hown, hst⟩ := hrel
    have HO := hide hown; clear hown
    obtain ⟨wo, rfl⟩ : ∃ x : World, x = wr := ⟨_, rfl⟩
    have hzo := hst.size
    by_cases hlt : k < vs.length
    · obtain ⟨b, off, hA, hb, hc⟩ := h.elem (w' := wo) inferInstance (k := k) (by simpa using hlt)
      obtain ⟨v, hv⟩ : ∃ v, vs[k]? = some v := ⟨_, List.getElem?_eq_getElem hlt⟩
      obtain ⟨v0, v1, v2, v3⟩ := At.l4 (hc k v.cells (by simp [hv]))
      have hkl : (k : Int) < (vs.length : Int) := by omega
      have hk0 : (0 : Int) ≤ (k : Int) := by omega
      have hlb : b < wo.heap.size := by omega
      have HTK : Hid ((vs.take (k + 1)).map clean = (vs.take k).map clean ++ [clean v]) := by show _ = _; rw [List.take_add_one, hv]; simp
      have HLN : Hid ((((vs.take k).map clean).map Val.cells).length = k) := by show _ = _; simp; omega
      have PV := hide (plain_ag v)
      obtain ⟨W2, hW2⟩ : ∃ y : World, y = wo.alloc (.cells #[.int .i64 v.kind, .int .i64 v.i, .bool v.b, .string v.s] 36) := ⟨_, rfl⟩
      have SW2 : Step wo W2 := by rw [hW2]; exact Step.of
      have HV2 : Hid (Blk W2 wo.heap.size 36 [.int .i64 v.kind, .int .i64 v.i, .bool v.b, .string v.s]) := by rw [hW2]; exact Blk.new wo _ 36
      have HW2 := hide hW2
      rw [hA]
      clear hc hv hA hW2
      go_upto_region 5 with fail
      rw [HW2.out.symm]
      clear v0 v1 v2 v3
      obtain ⟨g0, g1, g2, g3⟩ := At.z4 HV2.out.at0
      have lg := HV2.out.lt
      go_wp2_with (first
        | (go_at_call 109; (with_reducible refine (PV.out _).mono ?_); rintro e w5 ⟨rfl, hs5⟩)
        | (at_builtin; have HOW := hide ((HO.out.fut (w' := w5)).alloc (.cells #[.int .i64 (kindV v), .int .i64 (clean v).i, .bool (clean v).b, .string (clean v).s] 36)); have HNew := hide (SlAt.one w5 4 [.int .i64 (kindV v), .int .i64 (clean v).i, .bool (clean v).b, .string (clean v).s] 36); go_loud (refine wpList_append_sl rfl (.tmp 16) (.tmp 19) 65 rfl eiV4 (base := W.heap.size) (xs := ((vs.take k).map clean).map Val.cells) rfl HOW.out (vals_fit _) (ys := [[.int .i64 (kindV v), .int .i64 (clean v).i, .bool (clean v).b, .string (clean v).s]]) rfl (by simp) HNew.out (box_fit v) (by rw [HLN.out]; show (k + 1) * 40 ≤ _; omega) (fut W (w5.alloc (.cells #[.int .i64 (kindV v), .int .i64 (clean v).i, .bool (clean v).b, .string (clean v).s] 36))).size (N := k + 1) (by rw [HLN.out]; rfl) ?_; intro A7 c7 w7 hq1 hq2 hown7 hgr7 hbel7; have H7 := hide hown7; have hs7 : Step W w7 := ⟨(fut W (w5.alloc (.cells #[.int .i64 (kindV v), .int .i64 (clean v).i, .bool (clean v).b, .string (clean v).s] 36))).trans hbel7⟩; clear hown7 hgr7 hbel7)))
      go_roundw
      case rel => exact ⟨k + 1, A7, c7, by omega, by go_num, rfl, by rw [HTK.out, List.map_append, List.map_cons, List.map_nil, box_cells]; exact H7.out, hs7⟩
      case measure => simp [intOf]; omega
    · obtain rfl : k = vs.length := by omega
      rw [List.take_length] at HO
      have HLC : Hid ((vs.map clean).length = vs.length) := by show _ = _; simp
      have HSL := hide (HO.out.sl (vals_fit _).len)
      have SO : Hid (∀ (w' : World) [Fut wo w'], Calls Tryz.prog 161 #[.int .i64 0, .slice A' vs.length c'] w' fun e w'' => e = .returned (.agg #[.int .i64 0, .int .i64 (nullsP (vs.map clean) : Int), .int .i64 (minP (vs.map clean)).kind, .int .i64 (minP (vs.map clean)).i, .bool (minP (vs.map clean)).b, .string (minP (vs.map clean)).s, .int .i64 (maxP (vs.map clean)).kind, .int .i64 (maxP (vs.map clean)).i, .bool (maxP (vs.map clean)).b, .string (maxP (vs.map clean)).s]) ∧ Step w' w'') := fun w' _ => by
        have := statsOf_any 0 (vs.map clean) A' c' w' HSL.out (by rw [HLC.out]; omega)
        rw [HLC.out] at this
        exact this
      have hnl : (nullsP (vs.map clean) : Int) ≤ (vs.length : Int) := by
        have := List.countP_le_length (p := fun v => kindV v == 0) (l := vs.map clean)
        rw [HLC.out] at this
        unfold nullsP
        omega
      by_cases k0 : kd = 0
      · have HE : Hid (aggP kd vs = (Val.zero, 0)) := by show _ = _; rw [aggP, if_pos k0]
        subst k0
        go_upto_region 8 with (go_at_call 161; (with_reducible refine (SO.out _).mono ?_); rintro e w3 ⟨rfl, hs3⟩)
        obtain ⟨X, hX⟩ : ∃ x : World, x = w3.alloc (.cells #[.int .i64 0, .int .i64 (nullsP (vs.map clean) : Int), .int .i64 (minP (vs.map clean)).kind, .int .i64 (minP (vs.map clean)).i, .bool (minP (vs.map clean)).b, .string (minP (vs.map clean)).s, .int .i64 (maxP (vs.map clean)).kind, .int .i64 (maxP (vs.map clean)).i, .bool (maxP (vs.map clean)).b, .string (maxP (vs.map clean)).s] 158) := ⟨_, rfl⟩
        have SX : Step w3 X := by rw [hX]; exact Step.of
        have HS := hide (show Blk X w3.heap.size 158 [.int .i64 0, .int .i64 (nullsP (vs.map clean) : Int), .int .i64 (minP (vs.map clean)).kind, .int .i64 (minP (vs.map clean)).i, .bool (minP (vs.map clean)).b, .string (minP (vs.map clean)).s, .int .i64 (maxP (vs.map clean)).kind, .int .i64 (maxP (vs.map clean)).i, .bool (maxP (vs.map clean)).b, .string (maxP (vs.map clean)).s] by rw [hX]; exact Blk.new w3 _ 158)
        rw [← hX]
        clear hX
        obtain ⟨m0, m1, m2, m3, m4, m5, m6, m7, m8, m9⟩ := At.z10 HS.out.at0
        have lm := HS.out.lt
        obtain ⟨r0, r1, r2, r3⟩ := At.z4 (HR0.out.fut (w' := X)).at0
        have lr := (HR0.out.fut (w' := X)).lt
        have fr := (HR0.out.fut (w' := X)).free
        go_wp2_with fail
        refine bodyPost_ret (v := .tuple #[.agg #[.int .i64 0, .int .i64 0, .bool false, .string ⟨#[]⟩], .int .i64 0]) (by simp [results, Tryz.results130, go_sem, r0, r1, r2, r3]) rfl ?_
        exact ⟨by rw [HE.out]; rfl, Step.of⟩
      · have b0 : (kd == 0) = false := beq_eq_false_iff_ne.2 k0
        by_cases k1 : kd = 1
        · have HE : Hid (aggP kd vs = (⟨1, (vs.length : Int) - (nullsP (vs.map clean) : Int), false, .empty⟩, 0)) := by show _ = _; rw [aggP, if_neg k0, if_pos k1]
          have NB := hide (fun w' => number_any ((vs.length : Int) - (nullsP (vs.map clean) : Int)) w')
          have hsub : wrap64 ((vs.length : Int) - (nullsP (vs.map clean) : Int)) = (vs.length : Int) - (nullsP (vs.map clean) : Int) := by rw [wrap64]; omega
          subst k1
          clear k0
          go_upto_region 8 with (go_at_call 161; (with_reducible refine (SO.out _).mono ?_); rintro e w3 ⟨rfl, hs3⟩)
          obtain ⟨X, hX⟩ : ∃ x : World, x = w3.alloc (.cells #[.int .i64 0, .int .i64 (nullsP (vs.map clean) : Int), .int .i64 (minP (vs.map clean)).kind, .int .i64 (minP (vs.map clean)).i, .bool (minP (vs.map clean)).b, .string (minP (vs.map clean)).s, .int .i64 (maxP (vs.map clean)).kind, .int .i64 (maxP (vs.map clean)).i, .bool (maxP (vs.map clean)).b, .string (maxP (vs.map clean)).s] 158) := ⟨_, rfl⟩
          have SX : Step w3 X := by rw [hX]; exact Step.of
          have HS := hide (show Blk X w3.heap.size 158 [.int .i64 0, .int .i64 (nullsP (vs.map clean) : Int), .int .i64 (minP (vs.map clean)).kind, .int .i64 (minP (vs.map clean)).i, .bool (minP (vs.map clean)).b, .string (minP (vs.map clean)).s, .int .i64 (maxP (vs.map clean)).kind, .int .i64 (maxP (vs.map clean)).i, .bool (maxP (vs.map clean)).b, .string (maxP (vs.map clean)).s] by rw [hX]; exact Blk.new w3 _ 158)
          rw [← hX]
          clear hX
          obtain ⟨m0, m1, m2, m3, m4, m5, m6, m7, m8, m9⟩ := At.z10 HS.out.at0
          have lm := HS.out.lt
          obtain ⟨r0, r1, r2, r3⟩ := At.z4 (HR0.out.fut (w' := X)).at0
          have lr := (HR0.out.fut (w' := X)).lt
          have fr := (HR0.out.fut (w' := X)).free
          go_wp2_with (go_at_call 162; (with_reducible refine (NB.out _).mono ?_); rintro e w4 ⟨rfl, hs4⟩; clear r0 r1 r2 r3 lr fr; obtain ⟨r0, r1, r2, r3⟩ := At.z4 (HR0.out.fut (w' := w4)).at0; have lr := (HR0.out.fut (w' := w4)).lt; have fr := (HR0.out.fut (w' := w4)).free)
          refine bodyPost_ret (v := .tuple #[.agg #[.int .i64 1, .int .i64 ((vs.length : Int) - (nullsP (vs.map clean) : Int)), .bool false, .string ⟨#[]⟩], .int .i64 0]) (by simp [results, Tryz.results130, go_sem, r0, r1, r2, r3]) rfl ?_
          exact ⟨by rw [HE.out]; rfl, Step.of⟩
        · have b1 : (kd == 1) = false := beq_eq_false_iff_ne.2 k1
          by_cases k2 : kd = 2
          · have HE : Hid (aggP kd vs = sumP (vs.map clean)) := by show _ = _; rw [aggP, if_neg k0, if_neg k1, if_pos k2]
            have SM : Hid (∀ (w' : World) [Fut wo w'], Calls Tryz.prog 163 #[.slice A' vs.length c'] w' fun e w'' => e = .returned (.tuple #[.agg #[.int .i64 (sumP (vs.map clean)).1.kind, .int .i64 (sumP (vs.map clean)).1.i, .bool (sumP (vs.map clean)).1.b, .string (sumP (vs.map clean)).1.s], .int .i64 (sumP (vs.map clean)).2]) ∧ Step w' w'') := fun w' _ => by
              have := sum_any (vs.map clean) A' c' w' HSL.out (by rw [HLC.out]; exact hl) HRG.out
              rw [HLC.out] at this
              exact this
            subst k2
            clear k0 k1
            go_upto_region 8 with (go_at_call 161; (with_reducible refine (SO.out _).mono ?_); rintro e w3 ⟨rfl, hs3⟩)
            obtain ⟨X, hX⟩ : ∃ x : World, x = w3.alloc (.cells #[.int .i64 0, .int .i64 (nullsP (vs.map clean) : Int), .int .i64 (minP (vs.map clean)).kind, .int .i64 (minP (vs.map clean)).i, .bool (minP (vs.map clean)).b, .string (minP (vs.map clean)).s, .int .i64 (maxP (vs.map clean)).kind, .int .i64 (maxP (vs.map clean)).i, .bool (maxP (vs.map clean)).b, .string (maxP (vs.map clean)).s] 158) := ⟨_, rfl⟩
            have SX : Step w3 X := by rw [hX]; exact Step.of
            have HS := hide (show Blk X w3.heap.size 158 [.int .i64 0, .int .i64 (nullsP (vs.map clean) : Int), .int .i64 (minP (vs.map clean)).kind, .int .i64 (minP (vs.map clean)).i, .bool (minP (vs.map clean)).b, .string (minP (vs.map clean)).s, .int .i64 (maxP (vs.map clean)).kind, .int .i64 (maxP (vs.map clean)).i, .bool (maxP (vs.map clean)).b, .string (maxP (vs.map clean)).s] by rw [hX]; exact Blk.new w3 _ 158)
            rw [← hX]
            clear hX
            obtain ⟨m0, m1, m2, m3, m4, m5, m6, m7, m8, m9⟩ := At.z10 HS.out.at0
            have lm := HS.out.lt
            obtain ⟨r0, r1, r2, r3⟩ := At.z4 (HR0.out.fut (w' := X)).at0
            have lr := (HR0.out.fut (w' := X)).lt
            have fr := (HR0.out.fut (w' := X)).free
            go_wp2_with (go_at_call 163; (with_reducible refine (SM.out _).mono ?_); rintro e w4 ⟨rfl, hs4⟩; clear r0 r1 r2 r3 lr fr; obtain ⟨r0, r1, r2, r3⟩ := At.z4 (HR0.out.fut (w' := w4)).at0; have lr := (HR0.out.fut (w' := w4)).lt; have fr := (HR0.out.fut (w' := w4)).free)
            refine bodyPost_ret (v := .tuple #[.agg #[.int .i64 (sumP (vs.map clean)).1.kind, .int .i64 (sumP (vs.map clean)).1.i, .bool (sumP (vs.map clean)).1.b, .string (sumP (vs.map clean)).1.s], .int .i64 (sumP (vs.map clean)).2]) (by simp [results, Tryz.results130, go_sem, r0, r1, r2, r3]) rfl ?_
            exact ⟨by rw [HE.out]; rfl, Step.of⟩
          · have b2 : (kd == 2) = false := beq_eq_false_iff_ne.2 k2
            by_cases k3 : kd = 3
            · have HE : Hid (aggP kd vs = (minP (vs.map clean), 0)) := by show _ = _; rw [aggP, if_neg k0, if_neg k1, if_neg k2, if_pos k3]
              subst k3
              clear k0 k1 k2
              go_upto_region 8 with (go_at_call 161; (with_reducible refine (SO.out _).mono ?_); rintro e w3 ⟨rfl, hs3⟩)
              obtain ⟨X, hX⟩ : ∃ x : World, x = w3.alloc (.cells #[.int .i64 0, .int .i64 (nullsP (vs.map clean) : Int), .int .i64 (minP (vs.map clean)).kind, .int .i64 (minP (vs.map clean)).i, .bool (minP (vs.map clean)).b, .string (minP (vs.map clean)).s, .int .i64 (maxP (vs.map clean)).kind, .int .i64 (maxP (vs.map clean)).i, .bool (maxP (vs.map clean)).b, .string (maxP (vs.map clean)).s] 158) := ⟨_, rfl⟩
              have SX : Step w3 X := by rw [hX]; exact Step.of
              have HS := hide (show Blk X w3.heap.size 158 [.int .i64 0, .int .i64 (nullsP (vs.map clean) : Int), .int .i64 (minP (vs.map clean)).kind, .int .i64 (minP (vs.map clean)).i, .bool (minP (vs.map clean)).b, .string (minP (vs.map clean)).s, .int .i64 (maxP (vs.map clean)).kind, .int .i64 (maxP (vs.map clean)).i, .bool (maxP (vs.map clean)).b, .string (maxP (vs.map clean)).s] by rw [hX]; exact Blk.new w3 _ 158)
              rw [← hX]
              clear hX
              obtain ⟨m0, m1, m2, m3, m4, m5, m6, m7, m8, m9⟩ := At.z10 HS.out.at0
              have lm := HS.out.lt
              obtain ⟨r0, r1, r2, r3⟩ := At.z4 (HR0.out.fut (w' := X)).at0
              have lr := (HR0.out.fut (w' := X)).lt
              have fr := (HR0.out.fut (w' := X)).free
              go_wp2_with fail
              refine bodyPost_ret (v := .tuple #[.agg #[.int .i64 (minP (vs.map clean)).kind, .int .i64 (minP (vs.map clean)).i, .bool (minP (vs.map clean)).b, .string (minP (vs.map clean)).s], .int .i64 0]) (by simp [results, Tryz.results130, go_sem, r0, r1, r2, r3]) rfl ?_
              exact ⟨by rw [HE.out]; rfl, Step.of⟩
            · have b3 : (kd == 3) = false := beq_eq_false_iff_ne.2 k3
              by_cases k4 : kd = 4
              · have HE : Hid (aggP kd vs = (maxP (vs.map clean), 0)) := by show _ = _; rw [aggP, if_neg k0, if_neg k1, if_neg k2, if_neg k3, if_pos k4]
                subst k4
                clear k0 k1 k2 k3
                go_upto_region 8 with (go_at_call 161; (with_reducible refine (SO.out _).mono ?_); rintro e w3 ⟨rfl, hs3⟩)
                obtain ⟨X, hX⟩ : ∃ x : World, x = w3.alloc (.cells #[.int .i64 0, .int .i64 (nullsP (vs.map clean) : Int), .int .i64 (minP (vs.map clean)).kind, .int .i64 (minP (vs.map clean)).i, .bool (minP (vs.map clean)).b, .string (minP (vs.map clean)).s, .int .i64 (maxP (vs.map clean)).kind, .int .i64 (maxP (vs.map clean)).i, .bool (maxP (vs.map clean)).b, .string (maxP (vs.map clean)).s] 158) := ⟨_, rfl⟩
                have SX : Step w3 X := by rw [hX]; exact Step.of
                have HS := hide (show Blk X w3.heap.size 158 [.int .i64 0, .int .i64 (nullsP (vs.map clean) : Int), .int .i64 (minP (vs.map clean)).kind, .int .i64 (minP (vs.map clean)).i, .bool (minP (vs.map clean)).b, .string (minP (vs.map clean)).s, .int .i64 (maxP (vs.map clean)).kind, .int .i64 (maxP (vs.map clean)).i, .bool (maxP (vs.map clean)).b, .string (maxP (vs.map clean)).s] by rw [hX]; exact Blk.new w3 _ 158)
                rw [← hX]
                clear hX
                obtain ⟨m0, m1, m2, m3, m4, m5, m6, m7, m8, m9⟩ := At.z10 HS.out.at0
                have lm := HS.out.lt
                obtain ⟨r0, r1, r2, r3⟩ := At.z4 (HR0.out.fut (w' := X)).at0
                have lr := (HR0.out.fut (w' := X)).lt
                have fr := (HR0.out.fut (w' := X)).free
                go_wp2_with fail
                refine bodyPost_ret (v := .tuple #[.agg #[.int .i64 (maxP (vs.map clean)).kind, .int .i64 (maxP (vs.map clean)).i, .bool (maxP (vs.map clean)).b, .string (maxP (vs.map clean)).s], .int .i64 0]) (by simp [results, Tryz.results130, go_sem, r0, r1, r2, r3]) rfl ?_
                exact ⟨by rw [HE.out]; rfl, Step.of⟩
              · have b4 : (kd == 4) = false := beq_eq_false_iff_ne.2 k4
                have HE : Hid (aggP kd vs = (Val.zero, 1700)) := by show _ = _; rw [aggP, if_neg k0, if_neg k1, if_neg k2, if_neg k3, if_neg k4]
                clear k0 k1 k2 k3 k4
                go_upto_region 8 with (go_at_call 161; (with_reducible refine (SO.out _).mono ?_); rintro e w3 ⟨rfl, hs3⟩)
                obtain ⟨X, hX⟩ : ∃ x : World, x = w3.alloc (.cells #[.int .i64 0, .int .i64 (nullsP (vs.map clean) : Int), .int .i64 (minP (vs.map clean)).kind, .int .i64 (minP (vs.map clean)).i, .bool (minP (vs.map clean)).b, .string (minP (vs.map clean)).s, .int .i64 (maxP (vs.map clean)).kind, .int .i64 (maxP (vs.map clean)).i, .bool (maxP (vs.map clean)).b, .string (maxP (vs.map clean)).s] 158) := ⟨_, rfl⟩
                have SX : Step w3 X := by rw [hX]; exact Step.of
                have HS := hide (show Blk X w3.heap.size 158 [.int .i64 0, .int .i64 (nullsP (vs.map clean) : Int), .int .i64 (minP (vs.map clean)).kind, .int .i64 (minP (vs.map clean)).i, .bool (minP (vs.map clean)).b, .string (minP (vs.map clean)).s, .int .i64 (maxP (vs.map clean)).kind, .int .i64 (maxP (vs.map clean)).i, .bool (maxP (vs.map clean)).b, .string (maxP (vs.map clean)).s] by rw [hX]; exact Blk.new w3 _ 158)
                rw [← hX]
                clear hX
                obtain ⟨m0, m1, m2, m3, m4, m5, m6, m7, m8, m9⟩ := At.z10 HS.out.at0
                have lm := HS.out.lt
                obtain ⟨r0, r1, r2, r3⟩ := At.z4 (HR0.out.fut (w' := X)).at0
                have lr := (HR0.out.fut (w' := X)).lt
                have fr := (HR0.out.fut (w' := X)).free
                go_wp2_with fail
                refine bodyPost_ret (v := .tuple #[.agg #[.int .i64 0, .int .i64 0, .bool false, .string ⟨#[]⟩], .int .i64 1700]) (by simp [results, Tryz.results130, go_sem, r0, r1, r2, r3]) rfl ?_
                exact ⟨by rw [HE.out]; rfl, Step.of⟩
end Go.Proofs.YtnphokhehacfnaaGreatDoor

namespace Go.Proofs.YtnphokhehacfnaaGreatDoor
open Go.RowKit

set_option maxHeartbeats 4000000 in
theorem indexFuncVal_any {w0 : World} (f : FuncId) (caps : Array Value) (p : Val → Bool) (A : Option Addr) (cap : Nat) (l : List Val) (w : World)
    (hB : l.length ≤ 4611686018427387904) (hat : SlAt w0 w0.heap.size 4 A (l.map Val.cells)) [hf0 : Fut w0 w]
    (hcall : ∀ args w, (callFunc f args).run Tryz.prog w = .ok (.enter f args) w)
    (hf : ∀ c ∈ l, ∀ w' [Fut w w'], Calls Tryz.prog f (#[.agg #[.int .i64 c.kind, .int .i64 c.i, .bool c.b, .string c.s]] ++ caps) w' fun e w'' => e = .returned (.bool (p c)) ∧ Step w' w'') :
    Calls Tryz.prog 166 #[.slice A l.length cap, .func (.func f) #[] caps] w fun e w' =>
      e = .returned (.int .i64 (idx p l)) ∧ Step w w' := by
  have HF := Lib.hid hf; clear hf
  have hz := hf0.below.size
  go_enter Tryz.func166, Tryz.ntmps166
  go_wp2
  go_loopw [8] (fun i wr => ∃ k : Nat, k ≤ l.length ∧ i = .int .i64 k ∧ k ≤ l.findIdx p ∧ Step w wr) (fun i _ => l.length - (intOf i).toNat)
  case atStart => exact ⟨0, Nat.zero_le _, rfl, Nat.zero_le _, Step.of⟩
  case round =>
    obtain ⟨k, hk, rfl, hfi, hst⟩ := hrel
    obtain ⟨wo, rfl⟩ : ∃ x : World, x = wr := ⟨_, rfl⟩
    have hzo := hst.size
    by_cases hlt : k < l.length
    · obtain ⟨b, off, rfl, hb, hc⟩ := hat.elem (w' := wo) inferInstance (k := k) (by simpa using hlt)
      have hck := hc k l[k].cells (by simp [hlt])
      obtain ⟨h0, h1, h2, h3_⟩ := At.l4 hck
      have hlb : b < wo.heap.size := by omega
      have HC := HF.out l[k] (List.getElem_mem hlt) wo
      have HC' := Lib.hid HC; clear HC hc hck
      cases hp : p l[k] with
      | true =>
        have Hp := Lib.hid hp; clear hp
        go_wp2_with (refine HC'.out.mono ?_; rintro e w' ⟨rfl, hs⟩; rw [Hp.out])
        go_ret
        have e : l.findIdx p = k := fi_hit p l k hlt hfi Hp.out
        exact ⟨ret_int (by simp [idx, e, hlt]), Step.of⟩
      | false =>
        have Hp := Lib.hid hp; clear hp
        go_wp2_with (refine HC'.out.mono ?_; rintro e w' ⟨rfl, hs⟩; rw [Hp.out])
        go_roundw
        case rel => exact ⟨k + 1, by omega, by go_num, fi_miss p l k hlt hfi Hp.out, Step.of⟩
        case measure => simp [intOf]; omega
    · go_wp2_with fail
      go_ret
      exact ⟨ret_int (by rw [idx, if_neg (by omega)]), Step.of⟩
theorem containsFuncVal_any {w0 : World} (f : FuncId) (caps : Array Value) (p : Val → Bool) (A : Option Addr) (cap : Nat) (l : List Val) (w : World)
    (hB : l.length ≤ 4611686018427387904) (hat : SlAt w0 w0.heap.size 4 A (l.map Val.cells)) [hf0 : Fut w0 w]
    (hcall : ∀ args w, (callFunc f args).run Tryz.prog w = .ok (.enter f args) w)
    (hf : ∀ c ∈ l, ∀ w' [Fut w w'], Calls Tryz.prog f (#[.agg #[.int .i64 c.kind, .int .i64 c.i, .bool c.b, .string c.s]] ++ caps) w' fun e w'' => e = .returned (.bool (p c)) ∧ Step w' w'') :
    Calls Tryz.prog 136 #[.slice A l.length cap, .func (.func f) #[] caps] w fun e w' =>
      e = .returned (.bool (l.any p)) ∧ Step w w' := by
  have C := hide (indexFuncVal_any f caps p A cap l w hB hat hcall hf)
  have HA := hide (idx_any p l)
  clear hf hcall hat
  rw [← HA.out]
  clear HA
  obtain ⟨r, hr⟩ : ∃ r, idx p l = r := ⟨_, rfl⟩
  rw [hr] at C
  rw [hr]
  clear hr
  go_enter Tryz.func136, Tryz.ntmps136
  go_wp2_with (refine C.out.mono ?_; rintro e w' ⟨rfl, hs⟩)
  go_ret
  exact ⟨rfl, Step.of⟩

theorem idx_ints {x : Int} {l : List Int} : (0 ≤ idx (fun y => x == y) l) ↔ l.contains x = true := by
  constructor
  · intro h
    obtain ⟨h1, h2⟩ := idx_yes h
    have := List.findIdx_getElem (w := h2)
    rw [beq_iff_eq] at this
    rw [List.contains_iff_mem, this]
    exact List.getElem_mem h2
  · intro h
    rw [List.contains_iff_mem] at h
    have hl : l.findIdx (fun y => x == y) < l.length := List.findIdx_lt_length_of_exists ⟨x, h, by simp⟩
    rw [idx, if_pos hl]
    omega
set_option maxRecDepth 100000 in
set_option maxHeartbeats 4000000 in
theorem indexInt_any {w0 : World} (A : Option Addr) (cap : Nat) (l : List Int) (x : Int) (w : World) (hB : l.length ≤ 4611686018427387904) (hat : SlAt w0 w0.heap.size 1 A (intCells l)) [hf0 : Fut w0 w] :
    Calls Tryz.prog 168 #[.slice A l.length cap, .int .i64 x] w fun e w' => e = .returned (.int .i64 (idx (fun y => x == y) l)) ∧ Step w w' := by
  have hz := hf0.below.size
  go_enter Tryz.func168, Tryz.ntmps168
  go_wp2
  go_loopw [5, 8] (fun _ i wr => ∃ k : Nat, k ≤ l.length ∧ i = .int .i64 k ∧ k ≤ l.findIdx (fun y => x == y) ∧ Step w wr) (fun _ i _ => l.length - (intOf i).toNat)
  case atStart => exact ⟨0, Nat.zero_le _, rfl, Nat.zero_le _, Step.of⟩
  case round =>
    obtain ⟨k, hk, rfl, hfi, hst⟩ := hrel
    obtain ⟨wo, rfl⟩ : ∃ x : World, x = wr := ⟨_, rfl⟩
    have hzo := hst.size
    by_cases hlt : k < l.length
    · obtain ⟨b, off, rfl, hb, hc⟩ := hat.elem (w' := wo) inferInstance (k := k) (by rw [intCells_len]; exact hlt)
      have h0 := At.l1 (hc k [.int .i64 l[k]] (by simp [intCells, hlt]))
      simp only [Nat.mul_one] at h0
      have hlb : b < wo.heap.size := by omega
      obtain ⟨y, hy⟩ : ∃ y, l[k] = y := ⟨_, rfl⟩
      have HY := hide hy
      rw [hy] at h0
      clear hc hy
      by_cases hxy : x = y
      · have hp : (x == y) = true := beq_iff_eq.2 hxy
        have HP := hide hp
        clear hxy
        go_wp2_with fail
        go_ret
        have e : l.findIdx (fun y => x == y) = k := fi_hit _ l k hlt hfi (by rw [HY.out]; exact HP.out)
        exact ⟨ret_int (by rw [idx, e, if_pos hlt]), Step.of⟩
      · have hp : (x == y) = false := beq_eq_false_iff_ne.2 hxy
        have HP := hide hp
        clear hxy
        go_wp2_with fail
        go_roundw
        case rel => exact ⟨k + 1, by omega, by go_num, fi_miss _ l k hlt hfi (by rw [HY.out]; exact HP.out), Step.of⟩
        case measure => simp [intOf]; omega
    · go_wp2_with fail
      go_ret
      exact ⟨ret_int (by rw [idx, if_neg (by omega)]), Step.of⟩
theorem containsInt_any {w0 : World} (A : Option Addr) (cap : Nat) (l : List Int) (x : Int) (w : World) (hB : l.length ≤ 4611686018427387904) (hat : SlAt w0 w0.heap.size 1 A (intCells l)) [hf0 : Fut w0 w] :
    Calls Tryz.prog 139 #[.slice A l.length cap, .int .i64 x] w fun e w' => e = .returned (.bool (l.contains x)) ∧ Step w w' := by
  have C := hide (indexInt_any A cap l x w hB hat)
  obtain ⟨r, hr⟩ : ∃ r, idx (fun y => x == y) l = r := ⟨_, rfl⟩
  have HC : Hid (decide (0 ≤ r) = l.contains x) := by
    show _ = _
    rw [← hr]
    cases hc : l.contains x with
    | true => rw [decide_eq_true_iff]; exact idx_ints.2 hc
    | false => rw [decide_eq_false_iff_not]; intro h; rw [idx_ints.1 h] at hc; cases hc
  rw [hr] at C
  rw [← HC.out]
  clear hr hat
  go_enter Tryz.func139, Tryz.ntmps139
  go_wp2_with (go_at_call 168; (with_reducible refine C.out.mono ?_); rintro e w3 ⟨rfl, hs3⟩)
  go_ret
  exact ⟨rfl, Step.of⟩
theorem mval1_any (v : Val) (w : World) (hs : v.s.size ≤ 9223372036854775807) : Calls Tryz.prog 137 #[.agg #[.int .i64 v.kind, .int .i64 v.i, .bool v.b, .string v.s]] w fun e w' => e = .returned (.bool (!valueB v)) ∧ Step w w' := by
  have VB := fun w' => value_any v w' hs
  obtain ⟨T, hT⟩ : ∃ T, valueB v = T := ⟨_, rfl⟩
  rw [hT] at VB ⊢
  have VB := hide VB
  clear hT hs
  obtain ⟨W, hW⟩ : ∃ W, W = w.alloc (.cells #[.int .i64 v.kind, .int .i64 v.i, .bool v.b, .string v.s] 36) := ⟨_, rfl⟩
  have SW : Step w W := by rw [hW]; exact Step.of
  have HB : Hid (Blk W w.heap.size 36 [.int .i64 v.kind, .int .i64 v.i, .bool v.b, .string v.s]) := by rw [hW]; exact Blk.new w _ _
  obtain ⟨x0, x1, x2, x3⟩ := At.z4 HB.out.at0
  have lx := HB.out.lt
  go_enter Tryz.func137, Tryz.ntmps137
  go_upto_region 1 with fail
  rw [← hW]
  clear hW
  go_wp2_with (go_at_call 138; (with_reducible refine (VB.out _).mono ?_); rintro e w3 ⟨rfl, hs3⟩)
  go_ret
  exact ⟨rfl, Step.of⟩

theorem rep_get {L : List Value} (hL : L.length = 4) : ∀ (n i : Nat), i < n * 4 → (List.replicate n L).flatten[i]? = L[i % 4]?
  | 0, i, h => by omega
  | n + 1, i, h => by
    rw [List.replicate_succ, List.flatten_cons, List.getElem?_append, hL]
    split
    · rw [Nat.mod_eq_of_lt (by omega)]
    · rw [rep_get hL n (i - 4) (by omega)]
      congr 1
      omega
/-- make([]Value, n): values that are zero. -/
theorem made_vals (n : Nat) (hn : n ≤ 1000) : ∃ O : Obj, (∀ w : World, (Instr.makeSlice 65 (.int .i64 (n : Int)) (.int .i64 (n : Int))).run Tryz.prog w = .ok (.slice (some ⟨w.heap.size, 0, none⟩) n n) (w.alloc O)) ∧
    ∀ w : World, Own (w.alloc O) w.heap.size 36 4 (.slice (some ⟨w.heap.size, 0, none⟩) n n) ((List.replicate n Val.zero).map Val.cells) := by
  obtain ⟨ht, ⟨i, z, hi, hz, hs, hby, hzs⟩, _, _⟩ := eiV4
  have hz0 : z = .agg #[.int .i64 0, .int .i64 0, .bool false, .string .empty] := by
    have h : (Tryz.prog.info? 36).map (fun i => i.zero) = some (some (.agg #[.int .i64 0, .int .i64 0, .bool false, .string .empty])) := by kernel_rfl
    rw [hi] at h
    simp only [Option.map_some, Option.some.injEq] at h
    rw [hz] at h
    exact Option.some.inj h
  subst hz0
  refine ⟨.cells (((List.replicate n Val.zero).map Val.cells).flatten).toArray 36, fun w => ?_, fun w => ?_⟩
  · have hr := run_make (P := Tryz.prog) w 65 36 i _ ht hi hz .i64 .i64 n n (by omega) (Int.le_refl _) (by rw [hby]; omega) (by omega)
    rw [hs] at hr
    simp only [Int.toNat_natCast] at hr
    have hm : madeCells (Value.agg #[.int .i64 0, .int .i64 0, .bool false, .string .empty]).cells (n * 4) = (((List.replicate n Val.zero).map Val.cells).flatten).toArray := by
      have hl : (((List.replicate n Val.zero).map Val.cells).flatten).length = n * 4 := by rw [flatten_length (size := 4) (vals_fit _).len]; simp
      apply Array.ext
      · rw [size_madeCells]; simp only [List.size_toArray]; omega
      · intro j h1 h2
        have hj : j < n * 4 := by rw [size_madeCells] at h1; exact h1
        have hg := rep_get (L := Val.zero.cells) rfl n j hj
        rw [← List.map_replicate] at hg
        have e1 : (((List.replicate n Val.zero).map Val.cells).flatten)[j]? = some ((((List.replicate n Val.zero).map Val.cells).flatten)[j]'(by omega)) := List.getElem?_eq_getElem _
        rw [e1] at hg
        have h4 : j % 4 < 4 := Nat.mod_lt _ (by decide)
        rw [List.getElem?_eq_getElem (show j % 4 < Val.zero.cells.length from h4)] at hg
        simp only [madeCells, Array.getElem_map, Array.getElem_range, List.getElem_toArray]
        rw [Option.some.inj hg]
        rw [show (Value.agg #[.int .i64 0, .int .i64 0, .bool false, .string .empty]).cells = #[.int .i64 0, .int .i64 0, .bool false, .string .empty] from rfl]
        show (#[Value.int .i64 0, .int .i64 0, .bool false, .string .empty] : Array Value)[j % 4]! = _
        generalize j % 4 = m at h4
        match m, h4 with
        | 0, _ => rfl
        | 1, _ => rfl
        | 2, _ => rfl
        | 3, _ => rfl
    rw [hm] at hr
    exact hr
  · have hB := Blk.new w (((List.replicate n Val.zero).map Val.cells).flatten) 36
    exact Own.of_blk hB (Nat.le_refl _) (by simp) (vals_fit _).len (Nat.le_refl _) (by simp only [maxLen]; omega) (by rw [flatten_length (size := 4) (vals_fit _).len]; simp) (by rw [List.take_of_length_le]; rw [flatten_length (size := 4) (vals_fit _).len]; simp)
end Go.Proofs.YtnphokhehacfnaaGreatDoor

