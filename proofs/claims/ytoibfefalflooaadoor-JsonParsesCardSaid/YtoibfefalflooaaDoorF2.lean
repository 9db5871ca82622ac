/-
  The document's parser: four digits, a number.
-/
import Derived.Test.YtoibfefalflooaaDoorF1
namespace Go.Proofs.YtoibfefalflooaaDoor
open Go.RowKit

theorem hexN_in {s : ByteArray} : ∀ {f i x v : Nat}, i ≤ s.size → hexN s f i x = some v → i + f ≤ s.size
  | 0, i, x, v, hi, _ => hi
  | f + 1, i, x, v, hi, h => by
    rw [hexN] at h
    cases hd : hexV (bA s i) with
    | none => rw [hd] at h; cases h
    | some d =>
      rw [hd] at h
      have hi : i < s.size := bA_lt (by rintro e; rw [e] at hd; cases hd)
      have := hexN_in (i := i + 1) (by omega) h
      omega
def hexI : Option Nat → Int | some x => x | none => -1
def hexJ (i : Nat) : Option Nat → Nat | some _ => i + 4 | none => i
theorem hexV_cases {c : Nat} (hc : c < 256) : (48 ≤ c ∧ c ≤ 57 ∧ hexV c = some (c - 48)) ∨ (97 ≤ c ∧ c ≤ 102 ∧ hexV c = some (c - 87)) ∨ (65 ≤ c ∧ c ≤ 70 ∧ hexV c = some (c - 55)) ∨ ((c < 48 ∨ (57 < c ∧ c < 65) ∨ (70 < c ∧ c < 97) ∨ 102 < c) ∧ hexV c = none) := by
  unfold hexV
  by_cases h1 : 48 ≤ c ∧ c ≤ 57
  · left; exact ⟨h1.1, h1.2, by rw [if_pos (by simp [isD]; omega)]⟩
  · rw [if_neg (by simp [isD]; omega)]
    by_cases h2 : 97 ≤ c ∧ c ≤ 102
    · right; left; exact ⟨h2.1, h2.2, by rw [if_pos h2]⟩
    · rw [if_neg h2]
      by_cases h3 : 65 ≤ c ∧ c ≤ 70
      · right; right; left; exact ⟨h3.1, h3.2, by rw [if_pos h3]⟩
      · right; right; right; exact ⟨by omega, by rw [if_neg h3]⟩

set_option maxRecDepth 100000 in
set_option maxHeartbeats 8000000 in
theorem dhex_any (g : Nat) (s : ByteArray) (i : Nat) (cd : Int) (r : Option Nat) (w : World) (h : Dp w g s i cd) (hi : i ≤ s.size) (hr : hexP s i = r) (hs : s.size ≤ 65536) :
    Calls Tryd.prog 67 #[.pointer (some ⟨g, 0, none⟩)] w fun e w' => e = .returned (.int .i64 (hexI r)) ∧ Dp w' g s (hexJ i r) cd ∧ Mv g w w' := by
  have HH := hide h; have HRR := hide hr
  obtain ⟨q0, q1, q2⟩ := At.z3 h.at0
  have lq := h.lt; have fq := h.free
  have hsz : ((s.size : Int) - (i : Int)) ≤ 65536 := by omega
  have hsz0 : 0 ≤ (s.size : Int) - (i : Int) := by omega
  clear h
  by_cases h4 : s.size - i < 4
  · have HRN : Hid (r = none) := by
      show _ = _
      rw [← hr]
      cases hx : hexP s i with
      | none => rfl
      | some x => have := hexN_in hi hx; omega
    have k1 : (s.size : Int) - (i : Int) < 4 := by omega
    clear hr h4
    go_enter Tryd.func67, Tryd.ntmps67
    go_wp2_with fail
    go_quiet (fail)
    go_wp2_with fail
    go_ret
    exact ⟨by rw [HRN.out]; rfl, by rw [HRN.out]; exact HH.out.fut, Mv.fut (w' := w) (World.grownBy.refl w (some g))⟩
  · have k1 : ¬ (s.size : Int) - (i : Int) < 4 := by omega
    have hi4 : i + 4 ≤ s.size := by omega
    clear hr h4
    go_enter Tryd.func67, Tryd.ntmps67
    go_wp2_with fail
    go_quiet (fail)
    go_wp2_with fail
    go_loopw [3, 4] (fun v3 v4 wr => ∃ j x : Nat, j ≤ 4 ∧ v4 = .int .i64 j ∧ v3 = .int .i64 x ∧ Hid (x < 16 ^ j ∧ hexN s (4 - j) (i + j) x = r) ∧ Dp wr g s i cd ∧ Mv g w wr) (fun _ v4 _ => 4 - (intOf v4).toNat)
    case atStart => exact ⟨0, 0, by omega, rfl, rfl, ⟨by decide, HRR.out⟩, HH.out.fut, Mv.fut (w' := w) (World.grownBy.refl w (some g))⟩
    case round =>
      obtain ⟨j, x, hj, rfl, rfl, HX, hb, hm⟩ := hrel
      have HB := hide hb; have HM := hide hm
      obtain ⟨wo, rfl⟩ : ∃ x : World, x = wr := ⟨_, rfl⟩
      clear q0 q1 q2 lq fq
      obtain ⟨q0, q1, q2⟩ := At.z3 hb.at0
      have lq := hb.lt; have fq := hb.free
      clear hb hm
      have hxb : x ≤ 65536 := by
        have h1 := HX.out.1
        have h2 : 16 ^ j ≤ 16 ^ 4 := Nat.pow_le_pow_right (by decide) hj
        omega
      by_cases hlt : j < 4
      · have hjl : (j : Int) < 4 := by omega
        have HN := HX.out.2
        rw [show 4 - j = 4 - (j + 1) + 1 by omega] at HN
        obtain ⟨m, hmm⟩ : ∃ m, m = i + j := ⟨_, rfl⟩
        have k2 : (i : Int) + (j : Int) = (m : Int) := by omega
        have k3 : (0 : Int) ≤ (m : Int) := by omega
        have hms : m < s.size := by omega
        have k4 : (m : Int) < (s.size : Int) := by omega
        have hbd := s[m].toNat_lt
        have hcs := hexV_cases hbd
        have hA := bA_at hms
        rw [← hmm] at HN
        obtain ⟨c, hc⟩ : ∃ c : Nat, s[m].toNat = c := ⟨_, rfl⟩
        rw [hc] at hcs hA
        have hcc : (s[m].toNat : Int) = (c : Int) := by rw [hc]
        rw [hc] at hbd
        have HMM := hide hmm
        have PUTS : ∀ d, hexV c = some d → Hid (16 * x + d < 16 ^ (j + 1) ∧ hexN s (4 - (j + 1)) (i + (j + 1)) (16 * x + d) = r) := fun d hd => by
          have HN2 := hexN_yes (f := 4 - (j + 1)) (x := x) (hA ▸ hd : hexV (bA s m) = some d)
          rw [HN] at HN2
          exact ⟨hex_bd HX.out.1 (hexV_lt hd), by rw [HN2, hmm]; rfl⟩
        rcases hcs with ⟨h1, h2, h3⟩ | ⟨h1, h2, h3⟩ | ⟨h1, h2, h3⟩ | ⟨h1, h3⟩
        · have HBD := PUTS _ h3
          have l1 : (c : Int) ≥ 48 := by omega
          have l2 : (c : Int) ≤ 57 := by omega
          have l3 : IntKind.u8.wrap ((c : Int) - 48) = (c : Int) - 48 := by rw [IntKind.wrap_u8]; omega
          clear PUTS HN hA hc hmm
          go_wp2_with fail
          go_quiet (fail)
          go_wp2_with fail
          go_roundw
          case rel => exact ⟨j + 1, 16 * x + (c - 48), by omega, by go_num, by go_num, HBD, HB.out.fut, HM.out.fut⟩
          case measure => simp [intOf]; omega
        · have HBD := PUTS _ h3
          have l1 : (c : Int) ≥ 48 := by omega
          have l2 : ¬ (c : Int) ≤ 57 := by omega
          have l4 : (c : Int) ≥ 97 := by omega
          have l5 : (c : Int) ≤ 102 := by omega
          have l3 : IntKind.u8.wrap ((c : Int) - 97) = (c : Int) - 97 := by rw [IntKind.wrap_u8]; omega
          clear PUTS HN hA hc hmm
          go_wp2_with fail
          go_quiet (fail)
          go_wp2_with fail
          go_roundw
          case rel => exact ⟨j + 1, 16 * x + (c - 87), by omega, by go_num, by congr 1; omega, HBD, HB.out.fut, HM.out.fut⟩
          case measure => simp [intOf]; omega
        · have HBD := PUTS _ h3
          have l1 : (c : Int) ≥ 48 := by omega
          have l2 : ¬ (c : Int) ≤ 57 := by omega
          have l4 : ¬ (c : Int) ≥ 97 := by omega
          have l5 : (c : Int) ≥ 65 := by omega
          have l6 : (c : Int) ≤ 70 := by omega
          have l3 : IntKind.u8.wrap ((c : Int) - 65) = (c : Int) - 65 := by rw [IntKind.wrap_u8]; omega
          clear PUTS HN hA hc hmm
          go_wp2_with fail
          go_quiet (fail)
          go_wp2_with fail
          go_roundw
          case rel => exact ⟨j + 1, 16 * x + (c - 55), by omega, by go_num, by congr 1; omega, HBD, HB.out.fut, HM.out.fut⟩
          case measure => simp [intOf]; omega
        · have HN2 := hexN_no (f := 4 - (j + 1)) (x := x) (hA ▸ h3 : hexV (bA s m) = none)
          rw [HN] at HN2
          have HRN := hide HN2
          have hcs : (¬ (c : Int) ≥ 48 ∧ ¬ (c : Int) ≥ 97 ∧ ¬ (c : Int) ≥ 65) ∨ ((c : Int) ≥ 48 ∧ ¬ (c : Int) ≤ 57 ∧ ¬ (c : Int) ≥ 97 ∧ ¬ (c : Int) ≥ 65) ∨ ((c : Int) ≥ 48 ∧ ¬ (c : Int) ≤ 57 ∧ ¬ (c : Int) ≥ 97 ∧ (c : Int) ≥ 65 ∧ ¬ (c : Int) ≤ 70) ∨ ((c : Int) ≥ 48 ∧ ¬ (c : Int) ≤ 57 ∧ (c : Int) ≥ 97 ∧ ¬ (c : Int) ≤ 102 ∧ (c : Int) ≥ 65 ∧ ¬ (c : Int) ≤ 70) := by omega
          clear PUTS HN hA hc h1 HN2 hmm
          rcases hcs with ⟨l1, l2, l3⟩ | ⟨l1, l2, l3, l4⟩ | ⟨l1, l2, l3, l4, l5⟩ | ⟨l1, l2, l3, l4, l5, l6⟩
          all_goals
            go_wp2_with fail
            go_quiet (fail)
            go_wp2_with fail
            go_ret
            exact ⟨by rw [HRN.out]; rfl, by rw [HRN.out]; exact HB.out.fut, HM.out.fut⟩
      · obtain rfl : j = 4 := by omega
        have HRS := hide (HX.out.2)
        have k5 : (i : Int) + 4 ≤ 9223372036854775807 := by omega
        go_wp2_with fail
        go_ret
        exact ⟨by rw [← HRS.out]; rfl, by rw [← HRS.out]; exact Dp.put HB.out (by show _ = ((i + 4 : Nat) : Int); omega), Mv.put HM.out _⟩

/-- A number that no part or power follows. -/
def dnumP (s : ByteArray) (i : Nat) : Option (Int × Nat) :=
  match numP s i with
  | none => none
  | some (v, k) => if bA s k = 46 ∨ bA s k = 101 ∨ bA s k = 69 then none else some (v, k)
def NumD (g : Nat) (s : ByteArray) (r : Option (Int × Nat)) (e : Ending) (w' : World) : Prop :=
  match r with
  | some (v, k) => e = .returned (.int .i64 v) ∧ Dp w' g s k 0 ∧ k ≤ s.size ∧ -9223372036854775808 ≤ v ∧ v ≤ 9223372036854775807
  | none => ∃ v k, e = .returned (.int .i64 v) ∧ Dp w' g s k 300 ∧ k ≤ s.size
theorem dig_mono {s : ByteArray} : ∀ {f k x x2 k2 : Nat}, digN s f k x = some (x2, k2) → x ≤ x2
  | 0, k, x, x2, k2, h => by rw [digN] at h; injection h with h; injection h with h1 h2; omega
  | f + 1, k, x, x2, k2, h => by
    rw [digN] at h
    split at h
    · split at h
      · cases h
      · have := dig_mono h; omega
    · injection h with h; injection h with h1 h2; omega
def numM (s : ByteArray) (m : Bool) (i1 : Nat) (d : Option (Nat × Nat)) : Option (Int × Nat) := match d with | none => none | some (x, i2) => numE m i1 (bA s i1) x i2
theorem numE_big {m : Bool} {i1 c1 x i2 : Nat} (h : 9223372036854775808 < x) : numE m i1 c1 x i2 = none := by
  unfold numE
  split
  · rfl
  · rw [if_neg (by omega), if_neg (by omega)]
theorem num_over {s : ByteArray} {m : Bool} {i1 k x : Nat} (hd : isD (bA s k) = true) (h : 9223372036854775808 < 10 * x + (bA s k - 48)) : numM s m i1 (digN s (s.size - k) k x) = none := by
  by_cases hx : 1152921504606846976 < x
  · rw [dig_over hd hx]; rfl
  · rw [dig_more hd hx]
    cases hdd : digN s (s.size - (k + 1)) (k + 1) (10 * x + (bA s k - 48)) with
    | none => rfl
    | some p => exact numE_big (by have := dig_mono (x2 := p.1) (k2 := p.2) hdd; omega)
theorem numE_plus {i1 c1 x k : Nat} (h1 : k ≠ i1) (h2 : ¬ (1 < k - i1 ∧ c1 = 48)) (h3 : x < 9223372036854775808) : numE false i1 c1 x k = some ((x : Int), k) := by
  unfold numE
  have e1 : ¬ (k = i1 ∨ (1 < k - i1 ∧ c1 = 48) ∨ (false = true ∧ x = 0)) := fun h => by
    rcases h with h | h | h
    · exact h1 h
    · exact h2 h
    · exact Bool.false_ne_true h.1
  have e2 : ¬ (false = true ∧ x ≤ 9223372036854775808) := fun h => Bool.false_ne_true h.1
  rw [if_neg e1, if_neg e2, if_pos h3]
theorem word_one {s : ByteArray} {i : Nat} (c : UInt8) (hc : c.toNat ≠ 0) : wordB s i [c] = decide (bA s i = c.toNat) := by
  unfold wordB
  by_cases h : i < s.size
  · rw [dif_pos h, bA_at h]
    show (s[i] == c && true) = _
    rw [Bool.and_true]
    by_cases e : s[i] = c
    · rw [e, beq_self_eq_true, decide_eq_true rfl]
    · rw [beq_eq_false_iff_ne.2 e, decide_eq_false (fun e2 => e (UInt8.toNat_inj.1 e2))]
  · rw [dif_neg h, bA_end (by omega), decide_eq_false (fun e => hc e.symm)]; rfl

end Go.Proofs.YtoibfefalflooaaDoor
