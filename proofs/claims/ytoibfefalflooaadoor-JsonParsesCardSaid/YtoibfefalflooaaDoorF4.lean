/-
  The document's parser: what stands behind a stroke.
-/
import Derived.Test.YtoibfefalflooaaDoorF2
import Derived.Test.YtoibfefalflooaaDoorF3
namespace Go.Proofs.YtoibfefalflooaaDoor
open Go.RowKit

def EscD (g : Nat) (s : ByteArray) (r : Option (List UInt8 × Nat)) (e : Ending) (w' : World) : Prop :=
  match r with
  | some (l, j) => e = .returned (.string (ofL l)) ∧ Dp w' g s j 0 ∧ j ≤ s.size
  | none => ∃ j, e = .returned (.string ⟨#[]⟩) ∧ Dp w' g s j 300 ∧ j ≤ s.size
theorem esc_other {s : ByteArray} {i c : Nat} (h : bA s i = c) (hf : c ≠ 34 ∧ c ≠ 92 ∧ c ≠ 47 ∧ c ≠ 98 ∧ c ≠ 102 ∧ c ≠ 110 ∧ c ≠ 114 ∧ c ≠ 116) : escP s i = if c = 117 then uniP s (i + 1) else none := by
  rw [escP, h, if_neg (by omega), if_neg (by omega), if_neg (by omega), if_neg (by omega), if_neg (by omega), if_neg (by omega)]
theorem putR_ok {R : Int} (h0 : 65536 ≤ R) (h1 : R ≤ 1114111) : ∃ l, putR R = some l := by
  unfold putR
  rw [if_neg (by omega), if_neg (by omega), if_neg (by omega), if_neg (by omega)]
  exact ⟨_, rfl⟩

set_option maxRecDepth 100000 in
set_option maxHeartbeats 8000000 in
theorem desc_any (g : Nat) (s : ByteArray) (i : Nat) (w : World) (h : Dp w g s i 0) (hi : i ≤ s.size) (hs : s.size ≤ 65536) :
    Calls Tryd.prog 56 #[.pointer (some ⟨g, 0, none⟩)] w fun e w' => EscD g s (escP s i) e w' ∧ Mv g w w' := by
  have HH := hide h
  have hlb := h.lt
  obtain ⟨q0, q1, q2⟩ := At.z3 h.at0
  have lq := h.lt; have fq := h.free
  clear h
  by_cases hlt : i < s.size
  · have hkl : (i : Int) < (s.size : Int) := by omega
    have hk0 : (0 : Int) ≤ (i : Int) := by omega
    have hkd : decide ((i : Int) ≥ (s.size : Int)) = false := decide_eq_false (by omega)
    have hkd2 : decide ((s.size : Int) ≤ (i : Int)) = false := decide_eq_false (by omega)
    have hkd3 : decide (s.size ≤ i) = false := decide_eq_false (by omega)
    have hA := bA_at hlt
    have hc := s[i].toNat_lt
    obtain ⟨c, hcc⟩ : ∃ c : Nat, s[i].toNat = c := ⟨_, rfl⟩
    have HC : (s[i].toNat : Int) = (c : Int) := by rw [hcc]
    rw [hcc] at hA hc
    have HA := hide hA
    clear hA hcc
    go_enter Tryd.func56, Tryd.ntmps56
    go_wp2_with fail
    go_quiet (fail)
    obtain ⟨w1, hw1⟩ : ∃ x, x = w.drewN nq := ⟨_, rfl⟩
    have hs1 : Step w w1 := by rw [hw1]; exact Step.of
    rw [← hw1]
    have H1 := hide (HH.out.fut (w' := w1))
    clear hw1 q0 q1 q2 lq fq
    obtain ⟨q0, q1, q2⟩ := At.z3 H1.out.at0
    have lq := H1.out.lt; have fq := H1.out.free
    go_wp2_with fail
    go_quiet (fail)
    obtain ⟨w2, hw2⟩ : ∃ x, x = w1.drewN nq := ⟨_, rfl⟩
    have hs2 : Step w1 w2 := by rw [hw2]; exact Step.of
    rw [← hw2]
    have H2 := hide (H1.out.fut (w' := w2))
    clear hw2 q0 q1 q2 lq fq
    obtain ⟨q0, q1, q2⟩ := At.z3 H2.out.at0
    have lq := H2.out.lt; have fq := H2.out.free
    go_upto_region 6 with fail
    have HB : Hid (Dp (w2.setCell ⟨g, 1, none⟩ (.int .i64 ((i : Int) + 1))) g s (i + 1) 0) := Dp.put H2.out (by omega)
    have HM : Hid (Mv g w (w2.setCell ⟨g, 1, none⟩ (.int .i64 ((i : Int) + 1)))) := (Mv.of_step (Step.of : Step w w2)).put _
    obtain ⟨X, hX⟩ : ∃ x : World, x = w2.setCell ⟨g, 1, none⟩ (.int .i64 ((i : Int) + 1)) := ⟨_, rfl⟩
    rw [← hX] at HB HM
    rw [← hX]
    clear hX q0 q1 q2 lq fq H1 H2 hkl hk0 hkd hkd2 hkd3
    obtain ⟨q0, q1, q2⟩ := At.z3 HB.out.at0
    have lq := HB.out.lt; have fq := HB.out.free
    have hi1 : i + 1 ≤ s.size := hlt
    go_wp2_with fail
    go_loopw [6] (fun v6 wr => ∃ j : Nat, j ≤ 8 ∧ v6 = .int .i64 j ∧ Hid (∀ m, m < j → ([34, 92, 47, 98, 102, 110, 114, 116] : List Nat)[m]? ≠ some c) ∧ wr = X) (fun v6 _ => 8 - (intOf v6).toNat)
    case atStart => exact ⟨0, by omega, rfl, fun m hm => by omega, rfl⟩
    case round =>
      obtain ⟨j, hj, rfl, HF, rfl⟩ := hrel
      obtain ⟨X, rfl⟩ : ∃ x : World, x = wr := ⟨_, rfl⟩
      rcases (show j = 0 ∨ 0 < j by omega) with rfl | hj0
      · have hlst : ∀ d : Nat, c = 34 → Hid (escP s i = some ([34], i + 1)) := fun d hd => by
          show _ = _
          rw [escP, HA.out, hd]
          rfl
        by_cases hcj : c = 34
        · have HR := hlst 0 hcj
          have hce : ((c : Int) == 34) = true := beq_iff_eq.2 (by omega)
          have hce2 : ((34 : Int) == (c : Int)) = true := beq_iff_eq.2 (by omega)
          have hce3 : ((((⟨#[34, 92, 47, 98, 102, 110, 114, 116]⟩ : ByteArray)[0]).toNat : Int) == (c : Int)) = true := hce2
          clear hlst
          go_wp2_with fail
          go_ret
          exact ⟨by rw [HR.out]; exact ⟨by rfl, HB.out, hi1⟩, HM.out⟩
        · have hce : ((c : Int) == 34) = false := beq_eq_false_iff_ne.2 (by omega)
          have hce2 : ((34 : Int) == (c : Int)) = false := beq_eq_false_iff_ne.2 (by omega)
          have hce3 : ((((⟨#[34, 92, 47, 98, 102, 110, 114, 116]⟩ : ByteArray)[0]).toNat : Int) == (c : Int)) = false := hce2
          have HFN : Hid (∀ m, m < 1 → ([34, 92, 47, 98, 102, 110, 114, 116] : List Nat)[m]? ≠ some c) := fun m hm => by
            rcases (show m < 0 ∨ m = 0 by omega) with h | rfl
            · exact HF.out m h
            · simp; omega
          clear hlst
          go_wp2_with fail
          refine ⟨⟨1, by omega, by first | rfl | trivial, HFN, by first | trivial | rfl⟩, by first | decide | simp [intOf]⟩
      rcases (show j = 1 ∨ 1 < j by omega) with rfl | hj1
      · have hlst : ∀ d : Nat, c = 92 → Hid (escP s i = some ([92], i + 1)) := fun d hd => by
          show _ = _
          rw [escP, HA.out, hd]
          rfl
        by_cases hcj : c = 92
        · have HR := hlst 0 hcj
          have hce : ((c : Int) == 92) = true := beq_iff_eq.2 (by omega)
          have hce2 : ((92 : Int) == (c : Int)) = true := beq_iff_eq.2 (by omega)
          have hce3 : ((((⟨#[34, 92, 47, 98, 102, 110, 114, 116]⟩ : ByteArray)[1]).toNat : Int) == (c : Int)) = true := hce2
          clear hlst
          go_wp2_with fail
          go_ret
          exact ⟨by rw [HR.out]; exact ⟨by rfl, HB.out, hi1⟩, HM.out⟩
        · have hce : ((c : Int) == 92) = false := beq_eq_false_iff_ne.2 (by omega)
          have hce2 : ((92 : Int) == (c : Int)) = false := beq_eq_false_iff_ne.2 (by omega)
          have hce3 : ((((⟨#[34, 92, 47, 98, 102, 110, 114, 116]⟩ : ByteArray)[1]).toNat : Int) == (c : Int)) = false := hce2
          have HFN : Hid (∀ m, m < 2 → ([34, 92, 47, 98, 102, 110, 114, 116] : List Nat)[m]? ≠ some c) := fun m hm => by
            rcases (show m < 1 ∨ m = 1 by omega) with h | rfl
            · exact HF.out m h
            · simp; omega
          clear hlst
          go_wp2_with fail
          refine ⟨⟨2, by omega, by first | rfl | trivial, HFN, by first | trivial | rfl⟩, by first | decide | simp [intOf]⟩
      rcases (show j = 2 ∨ 2 < j by omega) with rfl | hj2
      · have hlst : ∀ d : Nat, c = 47 → Hid (escP s i = some ([47], i + 1)) := fun d hd => by
          show _ = _
          rw [escP, HA.out, hd]
          rfl
        by_cases hcj : c = 47
        · have HR := hlst 0 hcj
          have hce : ((c : Int) == 47) = true := beq_iff_eq.2 (by omega)
          have hce2 : ((47 : Int) == (c : Int)) = true := beq_iff_eq.2 (by omega)
          have hce3 : ((((⟨#[34, 92, 47, 98, 102, 110, 114, 116]⟩ : ByteArray)[2]).toNat : Int) == (c : Int)) = true := hce2
          clear hlst
          go_wp2_with fail
          go_ret
          exact ⟨by rw [HR.out]; exact ⟨by rfl, HB.out, hi1⟩, HM.out⟩
        · have hce : ((c : Int) == 47) = false := beq_eq_false_iff_ne.2 (by omega)
          have hce2 : ((47 : Int) == (c : Int)) = false := beq_eq_false_iff_ne.2 (by omega)
          have hce3 : ((((⟨#[34, 92, 47, 98, 102, 110, 114, 116]⟩ : ByteArray)[2]).toNat : Int) == (c : Int)) = false := hce2
          have HFN : Hid (∀ m, m < 3 → ([34, 92, 47, 98, 102, 110, 114, 116] : List Nat)[m]? ≠ some c) := fun m hm => by
            rcases (show m < 2 ∨ m = 2 by omega) with h | rfl
            · exact HF.out m h
            · simp; omega
          clear hlst
          go_wp2_with fail
          refine ⟨⟨3, by omega, by first | rfl | trivial, HFN, by first | trivial | rfl⟩, by first | decide | simp [intOf]⟩
      rcases (show j = 3 ∨ 3 < j by omega) with rfl | hj3
      · have hlst : ∀ d : Nat, c = 98 → Hid (escP s i = some ([8], i + 1)) := fun d hd => by
          show _ = _
          rw [escP, HA.out, hd]
          rfl
        by_cases hcj : c = 98
        · have HR := hlst 0 hcj
          have hce : ((c : Int) == 98) = true := beq_iff_eq.2 (by omega)
          have hce2 : ((98 : Int) == (c : Int)) = true := beq_iff_eq.2 (by omega)
          have hce3 : ((((⟨#[34, 92, 47, 98, 102, 110, 114, 116]⟩ : ByteArray)[3]).toNat : Int) == (c : Int)) = true := hce2
          clear hlst
          go_wp2_with fail
          go_ret
          exact ⟨by rw [HR.out]; exact ⟨by rfl, HB.out, hi1⟩, HM.out⟩
        · have hce : ((c : Int) == 98) = false := beq_eq_false_iff_ne.2 (by omega)
          have hce2 : ((98 : Int) == (c : Int)) = false := beq_eq_false_iff_ne.2 (by omega)
          have hce3 : ((((⟨#[34, 92, 47, 98, 102, 110, 114, 116]⟩ : ByteArray)[3]).toNat : Int) == (c : Int)) = false := hce2
          have HFN : Hid (∀ m, m < 4 → ([34, 92, 47, 98, 102, 110, 114, 116] : List Nat)[m]? ≠ some c) := fun m hm => by
            rcases (show m < 3 ∨ m = 3 by omega) with h | rfl
            · exact HF.out m h
            · simp; omega
          clear hlst
          go_wp2_with fail
          refine ⟨⟨4, by omega, by first | rfl | trivial, HFN, by first | trivial | rfl⟩, by first | decide | simp [intOf]⟩
      rcases (show j = 4 ∨ 4 < j by omega) with rfl | hj4
      · have hlst : ∀ d : Nat, c = 102 → Hid (escP s i = some ([12], i + 1)) := fun d hd => by
          show _ = _
          rw [escP, HA.out, hd]
          rfl
        by_cases hcj : c = 102
        · have HR := hlst 0 hcj
          have hce : ((c : Int) == 102) = true := beq_iff_eq.2 (by omega)
          have hce2 : ((102 : Int) == (c : Int)) = true := beq_iff_eq.2 (by omega)
          have hce3 : ((((⟨#[34, 92, 47, 98, 102, 110, 114, 116]⟩ : ByteArray)[4]).toNat : Int) == (c : Int)) = true := hce2
          clear hlst
          go_wp2_with fail
          go_ret
          exact ⟨by rw [HR.out]; exact ⟨by rfl, HB.out, hi1⟩, HM.out⟩
        · have hce : ((c : Int) == 102) = false := beq_eq_false_iff_ne.2 (by omega)
          have hce2 : ((102 : Int) == (c : Int)) = false := beq_eq_false_iff_ne.2 (by omega)
          have hce3 : ((((⟨#[34, 92, 47, 98, 102, 110, 114, 116]⟩ : ByteArray)[4]).toNat : Int) == (c : Int)) = false := hce2
          have HFN : Hid (∀ m, m < 5 → ([34, 92, 47, 98, 102, 110, 114, 116] : List Nat)[m]? ≠ some c) := fun m hm => by
            rcases (show m < 4 ∨ m = 4 by omega) with h | rfl
            · exact HF.out m h
            · simp; omega
          clear hlst
          go_wp2_with fail
          refine ⟨⟨5, by omega, by first | rfl | trivial, HFN, by first | trivial | rfl⟩, by first | decide | simp [intOf]⟩
      rcases (show j = 5 ∨ 5 < j by omega) with rfl | hj5
      · have hlst : ∀ d : Nat, c = 110 → Hid (escP s i = some ([10], i + 1)) := fun d hd => by
          show _ = _
          rw [escP, HA.out, hd]
          rfl
        by_cases hcj : c = 110
        · have HR := hlst 0 hcj
          have hce : ((c : Int) == 110) = true := beq_iff_eq.2 (by omega)
          have hce2 : ((110 : Int) == (c : Int)) = true := beq_iff_eq.2 (by omega)
          have hce3 : ((((⟨#[34, 92, 47, 98, 102, 110, 114, 116]⟩ : ByteArray)[5]).toNat : Int) == (c : Int)) = true := hce2
          clear hlst
          go_wp2_with fail
          go_ret
          exact ⟨by rw [HR.out]; exact ⟨by rfl, HB.out, hi1⟩, HM.out⟩
        · have hce : ((c : Int) == 110) = false := beq_eq_false_iff_ne.2 (by omega)
          have hce2 : ((110 : Int) == (c : Int)) = false := beq_eq_false_iff_ne.2 (by omega)
          have hce3 : ((((⟨#[34, 92, 47, 98, 102, 110, 114, 116]⟩ : ByteArray)[5]).toNat : Int) == (c : Int)) = false := hce2
          have HFN : Hid (∀ m, m < 6 → ([34, 92, 47, 98, 102, 110, 114, 116] : List Nat)[m]? ≠ some c) := fun m hm => by
            rcases (show m < 5 ∨ m = 5 by omega) with h | rfl
            · exact HF.out m h
            · simp; omega
          clear hlst
          go_wp2_with fail
          refine ⟨⟨6, by omega, by first | rfl | trivial, HFN, by first | trivial | rfl⟩, by first | decide | simp [intOf]⟩
      rcases (show j = 6 ∨ 6 < j by omega) with rfl | hj6
      · have hlst : ∀ d : Nat, c = 114 → Hid (escP s i = some ([13], i + 1)) := fun d hd => by
          show _ = _
          rw [escP, HA.out, hd]
          rfl
        by_cases hcj : c = 114
        · have HR := hlst 0 hcj
          have hce : ((c : Int) == 114) = true := beq_iff_eq.2 (by omega)
          have hce2 : ((114 : Int) == (c : Int)) = true := beq_iff_eq.2 (by omega)
          have hce3 : ((((⟨#[34, 92, 47, 98, 102, 110, 114, 116]⟩ : ByteArray)[6]).toNat : Int) == (c : Int)) = true := hce2
          clear hlst
          go_wp2_with fail
          go_ret
          exact ⟨by rw [HR.out]; exact ⟨by rfl, HB.out, hi1⟩, HM.out⟩
        · have hce : ((c : Int) == 114) = false := beq_eq_false_iff_ne.2 (by omega)
          have hce2 : ((114 : Int) == (c : Int)) = false := beq_eq_false_iff_ne.2 (by omega)
          have hce3 : ((((⟨#[34, 92, 47, 98, 102, 110, 114, 116]⟩ : ByteArray)[6]).toNat : Int) == (c : Int)) = false := hce2
          have HFN : Hid (∀ m, m < 7 → ([34, 92, 47, 98, 102, 110, 114, 116] : List Nat)[m]? ≠ some c) := fun m hm => by
            rcases (show m < 6 ∨ m = 6 by omega) with h | rfl
            · exact HF.out m h
            · simp; omega
          clear hlst
          go_wp2_with fail
          refine ⟨⟨7, by omega, by first | rfl | trivial, HFN, by first | trivial | rfl⟩, by first | decide | simp [intOf]⟩
      rcases (show j = 7 ∨ 7 < j by omega) with rfl | hj7
      · have hlst : ∀ d : Nat, c = 116 → Hid (escP s i = some ([9], i + 1)) := fun d hd => by
          show _ = _
          rw [escP, HA.out, hd]
          rfl
        by_cases hcj : c = 116
        · have HR := hlst 0 hcj
          have hce : ((c : Int) == 116) = true := beq_iff_eq.2 (by omega)
          have hce2 : ((116 : Int) == (c : Int)) = true := beq_iff_eq.2 (by omega)
          have hce3 : ((((⟨#[34, 92, 47, 98, 102, 110, 114, 116]⟩ : ByteArray)[7]).toNat : Int) == (c : Int)) = true := hce2
          clear hlst
          go_wp2_with fail
          go_ret
          exact ⟨by rw [HR.out]; exact ⟨by rfl, HB.out, hi1⟩, HM.out⟩
        · have hce : ((c : Int) == 116) = false := beq_eq_false_iff_ne.2 (by omega)
          have hce2 : ((116 : Int) == (c : Int)) = false := beq_eq_false_iff_ne.2 (by omega)
          have hce3 : ((((⟨#[34, 92, 47, 98, 102, 110, 114, 116]⟩ : ByteArray)[7]).toNat : Int) == (c : Int)) = false := hce2
          have HFN : Hid (∀ m, m < 8 → ([34, 92, 47, 98, 102, 110, 114, 116] : List Nat)[m]? ≠ some c) := fun m hm => by
            rcases (show m < 7 ∨ m = 7 by omega) with h | rfl
            · exact HF.out m h
            · simp; omega
          clear hlst
          go_wp2_with fail
          refine ⟨⟨8, by omega, by first | rfl | trivial, HFN, by first | trivial | rfl⟩, by first | decide | simp [intOf]⟩
      obtain rfl : j = 8 := by omega
      have hno : c ≠ 34 ∧ c ≠ 92 ∧ c ≠ 47 ∧ c ≠ 98 ∧ c ≠ 102 ∧ c ≠ 110 ∧ c ≠ 114 ∧ c ≠ 116 := by
        refine ⟨?_, ?_, ?_, ?_, ?_, ?_, ?_, ?_⟩
        · have := HF.out 0 (by decide); simp at this; omega
        · have := HF.out 1 (by decide); simp at this; omega
        · have := HF.out 2 (by decide); simp at this; omega
        · have := HF.out 3 (by decide); simp at this; omega
        · have := HF.out 4 (by decide); simp at this; omega
        · have := HF.out 5 (by decide); simp at this; omega
        · have := HF.out 6 (by decide); simp at this; omega
        · have := HF.out 7 (by decide); simp at this; omega
      have HES := hide (esc_other HA.out hno)
      by_cases hu : c = 117
      · have hub : ((c : Int) != 117) = false := by rw [hu]; rfl
        have hu2 : (c : Int) = 117 := by omega
        have HEU : Hid (escP s i = uniP s (i + 1)) := by show _ = _; rw [HES.out, if_pos hu]
        clear HES hno hu
        obtain ⟨r, hr⟩ : ∃ r, hexP s (i + 1) = r := ⟨_, rfl⟩
        have HX1 := hide (fun w' (hp : Dp w' g s (i + 1) 0) => dhex_any g s (i + 1) 0 r w' hp hi1 hr hs)
        have HRR := hide hr
        have hbd : ∀ x, r = some x → x < 65536 ∧ i + 1 + 4 ≤ s.size := fun x hx => ⟨hexP_bd (hr.trans hx), hexN_in hi1 (hr.trans hx)⟩
        clear hr
        go_upto_region 16 with (go_at_call 67; (with_reducible refine (HX1.out _ HB.out).mono ?_); rintro e w5 ⟨rfl, hp5, hm5⟩; have HP5 := hide hp5; have HM5 := hide (grown_trans HM.out hm5 : Mv g w w5); clear hp5 hm5)
        have PU := hide dput_any
        cases r with
        | none =>
          have HR : Hid (escP s i = none) := by show _ = _; rw [HEU.out, uniP, HRR.out]
          have PU1 := PU.out (-1)
          rw [show putR (-1) = none from rfl] at PU1
          have PU1 := hide PU1
          have hx : hexI none = -1 := rfl
          have hj1 : hexJ (i + 1) none = i + 1 := rfl
          rw [hj1] at HP5
          rw [hx]
          clear hx hj1 hbd
          go_wp2_with (first | (go_at_call 68; (with_reducible refine (PU1.out _).mono ?_); rintro e w6 ⟨hpr, hs6⟩; obtain rfl := hpr) | (go_at_call 26; (with_reducible refine (dfail_any g s (_) 300 _ HP5.out.fut).mono ?_); rintro e w9 ⟨rfl, hp9, hm9⟩; have HP9 := hide hp9; have HM9 := hide hm9; clear hp9 hm9))
          go_ret
          exact ⟨by rw [HR.out]; exact ⟨_, rfl, HP9.out, by omega⟩, grown_trans (Mv.fut HM5.out) HM9.out⟩
        | some x =>
          obtain ⟨hx1, hx2⟩ := hbd x rfl
          have hx : hexI (some x) = (x : Int) := rfl
          have hj1 : hexJ (i + 1) (some x) = i + 1 + 4 := rfl
          rw [hj1] at HP5
          rw [hx]
          clear hx hj1 hbd
          by_cases hsur : 55296 ≤ x ∧ x < 56320
          · have k1 : (x : Int) ≥ 55296 := by omega
            have k2 : (x : Int) ≤ 56319 := by omega
            obtain ⟨b, hb⟩ : ∃ b, wordB s (i + 1 + 4) [92, 117] = b := ⟨_, rfl⟩
            have WD := fun w' (hp : Dp w' g s (i + 1 + 4) 0) => dword_any g s ⟨#[92, 117]⟩ (i + 1 + 4) 0 b w' hp hx2 hb hs (by decide)
            cases b with
            | false =>
              have HR : Hid (escP s i = none) := by
                show _ = _
                rw [HEU.out, uniP, HRR.out]
                simp only [if_pos hsur, hb]
                rfl
              have PU1 := PU.out (x : Int)
              rw [show putR (x : Int) = none from by rw [putR, if_pos (by omega)]] at PU1
              have PU1 := hide PU1
              have WD : Hid (∀ w' (hp : Dp w' g s (i + 1 + 4) 0), Calls Tryd.prog 37 #[.pointer (some ⟨g, 0, none⟩), .string ⟨#[92, 117]⟩] w' fun e w'' => e = .returned (.bool false) ∧ Dp w'' g s (i + 1 + 4) 0 ∧ Mv g w' w'') := WD
              clear hb hsur
              go_wp2_with (first | (go_at_call 37; (with_reducible refine (WD.out _ HP5.out).mono ?_); rintro e w7 ⟨rfl, hp7, hm7⟩; have HP7 := hide hp7; have HM7 := hide (grown_trans HM5.out hm7 : Mv g w w7); clear hp7 hm7) | (go_at_call 68; (with_reducible refine (PU1.out _).mono ?_); rintro e w6 ⟨hpr, hs6⟩; obtain rfl := hpr) | (go_at_call 26; (with_reducible refine (dfail_any g s (_) 300 _ HP7.out.fut).mono ?_); rintro e w9 ⟨rfl, hp9, hm9⟩; have HP9 := hide hp9; have HM9 := hide hm9; clear hp9 hm9))
              go_ret
              exact ⟨by rw [HR.out]; exact ⟨_, rfl, HP9.out, by omega⟩, grown_trans (Mv.fut HM7.out) HM9.out⟩
            | true =>
              have hwl := word_len hx2 hb
              simp only [List.length_cons, List.length_nil] at hwl
              have hi7 : i + 1 + 6 ≤ s.size := by omega
              have WD : Hid (∀ w' (hp : Dp w' g s (i + 1 + 4) 0), Calls Tryd.prog 37 #[.pointer (some ⟨g, 0, none⟩), .string ⟨#[92, 117]⟩] w' fun e w'' => e = .returned (.bool true) ∧ Dp w'' g s (i + 1 + 6) 0 ∧ Mv g w' w'') := WD
              obtain ⟨r2, hr2⟩ : ∃ r, hexP s (i + 1 + 6) = r := ⟨_, rfl⟩
              have HX2 := hide (fun w' (hp : Dp w' g s (i + 1 + 6) 0) => dhex_any g s (i + 1 + 6) 0 r2 w' hp hi7 hr2 hs)
              have hbd2 : ∀ x, r2 = some x → x < 65536 ∧ i + 1 + 6 + 4 ≤ s.size := fun x hx => ⟨hexP_bd (hr2.trans hx), hexN_in hi7 (hr2.trans hx)⟩
              have HUN : Hid (escP s i = (match (generalizing := false) r2 with | none => none | some low => if low < 56320 ∨ 57343 < low then none else (putR (65536 + (x - 55296) * 1024 + low - 56320)).map fun l => (l, i + 1 + 10))) := by
                show _ = _
                rw [HEU.out, uniP, HRR.out]
                simp only [if_pos hsur, hb, hr2, if_true]
                rfl
              clear hb hwl hr2
              go_upto_region 18 with (first | (go_at_call 37; (with_reducible refine (WD.out _ HP5.out).mono ?_); rintro e w7 ⟨rfl, hp7, hm7⟩; have HP7 := hide hp7; have HM7 := hide (grown_trans HM5.out hm7 : Mv g w w7); clear hp7 hm7) | (go_at_call 67; (with_reducible refine (HX2.out _ HP7.out).mono ?_); rintro e w8 ⟨rfl, hp8, hm8⟩; have HP8 := hide hp8; have HM8 := hide (grown_trans HM7.out hm8 : Mv g w w8); clear hp8 hm8))
              cases r2 with
              | none =>
                have HR : Hid (escP s i = none) := HUN.out
                have hx : hexI none = -1 := rfl
                have hj1 : hexJ (i + 1 + 6) none = i + 1 + 6 := rfl
                rw [hj1] at HP8
                rw [hx]
                clear hx hj1 hbd2
                go_wp2_with (go_at_call 26; (with_reducible refine (dfail_any g s (_) 300 _ HP8.out.fut).mono ?_); rintro e w9 ⟨rfl, hp9, hm9⟩; have HP9 := hide hp9; have HM9 := hide hm9; clear hp9 hm9)
                go_ret
                exact ⟨by rw [HR.out]; exact ⟨_, rfl, HP9.out, by omega⟩, grown_trans HM8.out HM9.out⟩
              | some low =>
                obtain ⟨hl1, hl2⟩ := hbd2 low rfl
                have hx : hexI (some low) = (low : Int) := rfl
                have hj1 : hexJ (i + 1 + 6) (some low) = i + 1 + 6 + 4 := rfl
                rw [hj1] at HP8
                rw [hx]
                clear hx hj1 hbd2
                by_cases hlow : low < 56320 ∨ 57343 < low
                · have HR : Hid (escP s i = none) := by show _ = _; rw [HUN.out]; exact if_pos hlow
                  have hlc : (low : Int) < 56320 ∨ (¬ (low : Int) < 56320 ∧ (low : Int) > 57343) := by omega
                  clear hlow
                  rcases hlc with k3 | ⟨k3, k4⟩
                  all_goals
                    go_wp2_with (go_at_call 26; (with_reducible refine (dfail_any g s (_) 300 _ HP8.out.fut).mono ?_); rintro e w9 ⟨rfl, hp9, hm9⟩; have HP9 := hide hp9; have HM9 := hide hm9; clear hp9 hm9)
                    go_ret
                    exact ⟨by rw [HR.out]; exact ⟨_, rfl, HP9.out, by omega⟩, grown_trans HM8.out HM9.out⟩
                · have k3 : ¬ (low : Int) < 56320 := by omega
                  have k4 : ¬ (low : Int) > 57343 := by omega
                  obtain ⟨R, hR⟩ : ∃ R : Int, (65536 : Int) + ((x : Int) - 55296) * 1024 + (low : Int) - 56320 = R := ⟨_, rfl⟩
                  obtain ⟨l, hl⟩ := putR_ok (R := R) (by omega) (by omega)
                  have HR : Hid (escP s i = some (l, i + 1 + 10)) := by
                    show _ = _
                    rw [HUN.out]
                    have e1 : (((65536 + (x - 55296) * 1024 + low - 56320 : Nat)) : Int) = R := by omega
                    show (if low < 56320 ∨ 57343 < low then none else (putR _).map fun l => (l, i + 1 + 10)) = _
                    rw [if_neg hlow]
                    first | rw [hR, hl] | rw [e1, hl]
                    rfl
                  have PU1 := PU.out R
                  rw [hl] at PU1
                  have PU1 : Hid (∀ w', Calls Tryd.prog 68 #[.int .i64 R] w' fun e w'' => e = .returned (.tuple #[.string (ofL l), .int .i64 0]) ∧ Step w' w'') := PU1
                  clear hl hlow
                  go_upto_region 22 with fail
                  try rw [hR]
                  go_wp2_with (first | (go_at_call 68; (with_reducible refine (PU1.out _).mono ?_); rintro e w6 ⟨rfl, hs6⟩))
                  go_ret
                  exact ⟨by rw [HR.out]; exact ⟨rfl, HP8.out.fut, by omega⟩, (Mv.fut HM8.out)⟩
          · have HUN : Hid (escP s i = (putR (x : Int)).map fun l => (l, i + 1 + 4)) := by
              show _ = _
              rw [HEU.out, uniP, HRR.out]
              simp only [if_neg hsur]
            have PU1 := PU.out (x : Int)
            have hxs : ¬ (x : Int) ≥ 55296 ∨ ((x : Int) ≥ 55296 ∧ ¬ (x : Int) ≤ 56319) := by omega
            cases hpx : putR (x : Int) with
            | none =>
              rw [hpx] at PU1
              have PU1 := hide PU1
              have HR : Hid (escP s i = none) := by show _ = _; rw [HUN.out, hpx]; rfl
              clear hsur hpx HUN
              rcases hxs with k1 | ⟨k1, k2⟩
              all_goals
                go_wp2_with (first | (go_at_call 68; (with_reducible refine (PU1.out _).mono ?_); rintro e w6 ⟨hpr, hs6⟩; obtain rfl := hpr) | (go_at_call 26; (with_reducible refine (dfail_any g s (_) 300 _ HP5.out.fut).mono ?_); rintro e w9 ⟨rfl, hp9, hm9⟩; have HP9 := hide hp9; have HM9 := hide hm9; clear hp9 hm9))
                go_ret
                exact ⟨by rw [HR.out]; exact ⟨_, rfl, HP9.out, by omega⟩, grown_trans (Mv.fut HM5.out) HM9.out⟩
            | some l =>
              rw [hpx] at PU1
              have PU1 : Hid (∀ w', Calls Tryd.prog 68 #[.int .i64 (x : Int)] w' fun e w'' => e = .returned (.tuple #[.string (ofL l), .int .i64 0]) ∧ Step w' w'') := PU1
              have HR : Hid (escP s i = some (l, i + 1 + 4)) := by show _ = _; rw [HUN.out, hpx]; rfl
              clear hsur hpx HUN
              rcases hxs with k1 | ⟨k1, k2⟩
              all_goals
                go_wp2_with (first | (go_at_call 68; (with_reducible refine (PU1.out _).mono ?_); rintro e w6 ⟨rfl, hs6⟩) | (go_at_call 26; (with_reducible refine (dfail_any g s (_) 300 _ HP5.out.fut).mono ?_); rintro e w9 ⟨rfl, hp9, hm9⟩; have HP9 := hide hp9; have HM9 := hide hm9; clear hp9 hm9))
                go_ret
                exact ⟨by rw [HR.out]; exact ⟨rfl, HP5.out.fut, by omega⟩, (Mv.fut HM5.out)⟩
      · have hub : ((c : Int) != 117) = true := bne_iff_ne.2 (by omega)
        have HR : Hid (escP s i = none) := by show _ = _; rw [HES.out, if_neg hu]
        clear HES hno
        go_wp2_with (go_at_call 26; (with_reducible refine (dfail_any g s (_) 300 _ HB.out).mono ?_); rintro e w9 ⟨rfl, hp9, hm9⟩; have HP9 := hide hp9; have HM9 := hide hm9; clear hp9 hm9)
        go_ret
        exact ⟨by rw [HR.out]; exact ⟨_, rfl, HP9.out, hi1⟩, grown_trans HM.out HM9.out⟩
  · have hie : i = s.size := by omega
    have HR : Hid (escP s i = none) := by
      show _ = _
      rw [esc_other (bA_end (by omega)) (by decide)]
      rfl
    have hkd : decide ((i : Int) ≥ (s.size : Int)) = true := decide_eq_true (by omega)
    have hkd2 : decide ((s.size : Int) ≤ (i : Int)) = true := decide_eq_true (by omega)
    have hkd3 : decide (s.size ≤ i) = true := decide_eq_true (by omega)
    have hkd4 : (s.size : Int) ≤ (i : Int) := by omega
    have hkd5 : (i : Int) ≥ (s.size : Int) := by omega
    go_enter Tryd.func56, Tryd.ntmps56
    go_wp2_with fail
    go_quiet (fail)
    go_wp2_with (go_at_call 26; (with_reducible refine (dfail_any g s (_) 300 _ HH.out.fut).mono ?_); rintro e w9 ⟨rfl, hp9, hm9⟩; have HP9 := hide hp9; have HM9 := hide hm9; clear hp9 hm9)
    go_ret
    exact ⟨by rw [HR.out]; exact ⟨_, rfl, HP9.out, hi⟩, grown_trans (Mv.fut (w' := w) (World.grownBy.refl w (some g))) HM9.out⟩
end Go.Proofs.YtoibfefalflooaaDoor
