/-
  The program's parser: four digits.
-/
import Derived.Test.YtoibfefalflooaaDoorJd
namespace Go.Proofs.YtoibfefalflooaaDoor
open Go.RowKit

theorem or32_fin : ∀ c : Fin 256, (isD c.val = true ∧ hexV c.val = some (c.val - 48)) ∨ (isD c.val = false ∧ 97 ≤ (c.val ||| 32) ∧ (c.val ||| 32) ≤ 102 ∧ hexV c.val = some ((c.val ||| 32) - 87)) ∨ (isD c.val = false ∧ ((c.val ||| 32) < 97 ∨ 102 < (c.val ||| 32)) ∧ (c.val ||| 32) < 256 ∧ hexV c.val = none) := by decide +kernel
theorem hex_cases {c : Nat} (hc : c < 256) : (isD c = true ∧ hexV c = some (c - 48)) ∨ (∃ o : Nat, bits .or .u8 (c : Int) 32 = (o : Int) ∧ isD c = false ∧ 97 ≤ o ∧ o ≤ 102 ∧ hexV c = some (o - 87)) ∨ (∃ o : Nat, bits .or .u8 (c : Int) 32 = (o : Int) ∧ isD c = false ∧ (o < 97 ∨ 102 < o) ∧ o < 256 ∧ hexV c = none) := by
  have ho : bits .or .u8 (c : Int) 32 = ((c ||| 32 : Nat) : Int) := u8_or_nat c 32 hc (by decide)
  rcases or32_fin ⟨c, hc⟩ with h | h | h
  · exact .inl h
  · exact .inr (.inl ⟨_, ho, h⟩)
  · exact .inr (.inr ⟨_, ho, h⟩)
theorem hexN_yes {s : ByteArray} {f i x d : Nat} (h : hexV (bA s i) = some d) : hexN s (f + 1) i x = hexN s f (i + 1) (16 * x + d) := by rw [hexN, h]
theorem hexN_no {s : ByteArray} {f i x : Nat} (h : hexV (bA s i) = none) : hexN s (f + 1) i x = none := by rw [hexN, h]
/-- How four digits that must be there end. -/
def HexR (g : Nat) (s : ByteArray) (i : Nat) (r : Option Nat) (e : Ending) (w' : World) : Prop :=
  match r with
  | some x => e = .returned (.int .i64 (x : Int)) ∧ Pr w' g s (i + 4) ∧ i + 4 ≤ s.size
  | none => e = .panicked [{ v := fault 300, recovered := false }]
theorem hex_bd {x j d : Nat} (h : x < 16 ^ j) (hd : d < 16) : 16 * x + d < 16 ^ (j + 1) := by rw [Nat.pow_succ]; omega
theorem hexV_lt {c d : Nat} (h : hexV c = some d) : d < 16 := by
  unfold hexV at h
  split at h
  · rename_i h1
    simp [isD] at h1
    injection h with h
    omega
  · split at h
    · injection h with h; omega
    · split at h
      · injection h with h; omega
      · cases h

set_option maxRecDepth 100000 in
set_option maxHeartbeats 8000000 in
theorem jhex_any (g : Nat) (s : ByteArray) (i : Nat) (r : Option Nat) (w : World) (h : Pr w g s i) (hi : i ≤ s.size) (hr : hexP s i = r) (hs : s.size ≤ 65536) :
    Calls Tryd.prog 62 #[.pointer (some ⟨g, 0, none⟩)] w fun e w' => HexR g s i r e w' ∧ Mv g w w' := by
  have HH := hide h; have HRR := hide hr
  clear h hr
  go_enter Tryd.func62, Tryd.ntmps62
  go_wp2_with fail
  go_loopw [3, 4, 5, 10, 23] (fun t _ idx _ _ wr => ∃ j x : Nat, j ≤ 4 ∧ i + j ≤ s.size ∧ idx = .int .i64 j ∧ t = .int .i64 x ∧ Hid (x < 16 ^ j ∧ hexN s (4 - j) (i + j) x = r) ∧ Pr wr g s (i + j) ∧ Mv g w wr) (fun _ _ idx _ _ _ => 4 - (intOf idx).toNat)
  case atStart => exact ⟨0, 0, by omega, hi, rfl, rfl, ⟨by decide, HRR.out⟩, HH.out, World.grownBy.refl _ _⟩
  case round =>
    obtain ⟨j, x, hj, hij, rfl, rfl, HX, hb, hm⟩ := hrel
    have HB := hide hb; have HM := hide hm
    clear hm
    obtain ⟨wo, rfl⟩ : ∃ x : World, x = wr := ⟨_, rfl⟩
    have hxb : x ≤ 65536 := by
      have h1 := HX.out.1
      have h2 : 16 ^ j ≤ 16 ^ 4 := Nat.pow_le_pow_right (by decide) hj
      omega
    by_cases hlt : j < 4
    · have hjl : (j : Int) < 4 := by omega
      have NX := hide (fun w' (hp : Pr w' g s (i + j)) => jnext_any g s (i + j) w' hp hij hs)
      have HN := HX.out.2
      rw [show 4 - j = 4 - (j + 1) + 1 by omega] at HN
      have hbd := bA_bd s (i + j)
      have hin : ∀ d, hexV (bA s (i + j)) = some d → i + j < s.size := fun d h => bA_lt (by rintro e; rw [e] at h; cases h)
      have hcs := hex_cases hbd
      obtain ⟨c, hc⟩ : ∃ c, bA s (i + j) = c := ⟨_, rfl⟩
      have hlb := hb.lt
      clear hb
      have hcs2 := hcs
      clear hcs
      rcases hcs2 with ⟨h1, h2⟩ | ⟨o, ho, h1, h2, h3, h4⟩ | ⟨o, ho, h1, h2, h3, h4⟩
      · have hi1 := hin _ h2
        have HN2 := hexN_yes (f := 4 - (j + 1)) (x := x) h2
        rw [HN] at HN2
        have HBD : Hid (16 * x + (bA s (i + j) - 48) < 16 ^ (j + 1) ∧ hexN s (4 - (j + 1)) (i + (j + 1)) (16 * x + (bA s (i + j) - 48)) = r) := ⟨hex_bd HX.out.1 (hexV_lt h2), HN2.symm⟩
        rw [hc] at NX HBD h1 hbd
        simp only [isD, Bool.and_eq_true, decide_eq_true_eq] at h1
        obtain ⟨h5, h6⟩ := h1
        have l1 : (c : Int) ≥ 48 := by omega
        have l2 : (c : Int) ≤ 57 := by omega
        have l3 : IntKind.u8.wrap ((c : Int) - 48) = (c : Int) - 48 := by rw [IntKind.wrap_u8]; omega
        clear hc HN HN2 h2 hin h5 h6
        go_wp2_with (go_at_call 32; (with_reducible refine (NX.out _ HB.out).mono ?_); rintro e w5 ⟨rfl, hs5⟩; have b5 := HB.out.fut (w' := w5); obtain ⟨q0, q1⟩ := At.z2 b5.at0; have lq := b5.lt; have fq := b5.free; have HB5 := hide b5; clear b5)
        go_roundw
        case rel => exact ⟨j + 1, 16 * x + (c - 48), by omega, by omega, by go_num, by go_num, HBD, Pr.put HB5.out (by omega), (HM.out.fut (w'' := w5)).put _⟩
        case measure => simp [intOf]; omega
      · have hi1 := hin _ h4
        have HN2 := hexN_yes (f := 4 - (j + 1)) (x := x) h4
        rw [HN] at HN2
        have HBD : Hid (16 * x + (o - 87) < 16 ^ (j + 1) ∧ hexN s (4 - (j + 1)) (i + (j + 1)) (16 * x + (o - 87)) = r) := ⟨hex_bd HX.out.1 (hexV_lt h4), HN2.symm⟩
        rw [hc] at NX h1 hbd ho
        obtain ⟨C, hC⟩ : ∃ C : Int, (c : Int) = C := ⟨_, rfl⟩
        obtain ⟨O, hO⟩ : ∃ O : Int, (o : Int) = O := ⟨_, rfl⟩
        rw [hC] at NX ho
        rw [hO] at ho
        have hC0 : 0 ≤ C := by omega
        have hC1 : C < 256 := by omega
        have l1 : ¬ C ≥ 48 ∨ (C ≥ 48 ∧ ¬ C ≤ 57) := by simp [isD] at h1; omega
        have l3 : IntKind.u8.wrap (O - 97) = O - 97 := by rw [IntKind.wrap_u8]; omega
        have l4 : O ≥ 97 := by omega
        have l5 : O ≤ 102 := by omega
        have HOO := hide (⟨hO, h2, h3⟩ : (o : Int) = O ∧ 97 ≤ o ∧ o ≤ 102)
        clear hc HN HN2 h4 hin h1 h2 h3 hO hC
        rcases l1 with l1 | ⟨l1, l2⟩
        all_goals
          go_wp2_with (go_at_call 32; (with_reducible refine (NX.out _ HB.out).mono ?_); rintro e w5 ⟨rfl, hs5⟩; have b5 := HB.out.fut (w' := w5); obtain ⟨q0, q1⟩ := At.z2 b5.at0; have lq := b5.lt; have fq := b5.free; have HB5 := hide b5; clear b5)
          go_roundw
          case rel => exact ⟨j + 1, 16 * x + (o - 87), by omega, by omega, by go_num, by have := HOO.out; congr 1; omega, HBD, Pr.put HB5.out (by omega), (HM.out.fut (w'' := w5)).put _⟩
          case measure => simp [intOf]; omega
      · have HN2 := hexN_no (f := 4 - (j + 1)) (x := x) h4
        rw [HN] at HN2
        have HRN := hide HN2
        rw [hc] at NX h1 hbd ho
        obtain ⟨C, hC⟩ : ∃ C : Int, (c : Int) = C := ⟨_, rfl⟩
        obtain ⟨O, hO⟩ : ∃ O : Int, (o : Int) = O := ⟨_, rfl⟩
        rw [hC] at NX ho
        rw [hO] at ho
        have hC0 : 0 ≤ C := by omega
        have hC1 : C < 256 := by omega
        have l1 : ¬ C ≥ 48 ∨ (C ≥ 48 ∧ ¬ C ≤ 57) := by simp [isD] at h1; omega
        have l4 : ¬ O ≥ 97 ∨ (O ≥ 97 ∧ ¬ O ≤ 102) := by omega
        clear hc HN HN2 h4 hin h1 h2
        rcases l1 with l1 | ⟨l1, l2⟩
        all_goals
          rcases l4 with l4 | ⟨l4, l5⟩
          all_goals
            go_wp2_with (first | (go_at_call 32; (with_reducible refine (NX.out _ HB.out).mono ?_); rintro e w5 ⟨rfl, hs5⟩) | (go_at_call 23; (with_reducible refine (bad_any _).mono ?_); rintro e w9 ⟨rfl, rfl⟩))
            exact ⟨rfl, by rw [HRN.out]; rfl, HM.out.fut⟩
    · obtain rfl : j = 4 := by omega
      have HRS := hide (HX.out.2)
      go_wp2_with fail
      go_ret
      exact ⟨by rw [← HRS.out]; exact ⟨rfl, HB.out, hij⟩, HM.out⟩
end Go.Proofs.YtoibfefalflooaaDoor
