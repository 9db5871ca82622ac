/-
  The program's parser: a byte, a word, four digits.
-/
import Derived.Test.YtoibfefalflooaaDoorJc
namespace Go.Proofs.YtoibfefalflooaaDoor
open Go.RowKit

set_option maxRecDepth 100000 in
set_option maxHeartbeats 4000000 in
theorem jnext_any (g : Nat) (s : ByteArray) (i : Nat) (w : World) (h : Pr w g s i) (hi : i ≤ s.size) (_hs : s.size ≤ 65536) :
    Calls Tryd.prog 32 #[.pointer (some ⟨g, 0, none⟩)] w fun e w' => e = .returned (.int .u8 (bA s i : Int)) ∧ Step w w' := by
  obtain ⟨q0, q1⟩ := At.z2 h.at0
  have lq := h.lt
  by_cases hlt : i < s.size
  · have hkl : (i : Int) < (s.size : Int) := by omega
    have hk0 : (0 : Int) ≤ (i : Int) := by omega
    have HA := hide (bA_at hlt)
    have hc := s[i].toNat_lt
    clear h
    go_enter Tryd.func32, Tryd.ntmps32
    go_wp2_with fail
    go_quiet (fail)
    go_wp2_with fail
    go_quiet (fail)
    go_wp2_with fail
    go_ret
    exact ⟨by rw [HA.out]; rfl, Step.of⟩
  · obtain rfl : i = s.size := by omega
    have HA := hide (bA_end (s := s) (Nat.le_refl _))
    clear h
    go_enter Tryd.func32, Tryd.ntmps32
    go_wp2_with fail
    go_quiet (fail)
    go_wp2_with fail
    go_ret
    exact ⟨by rw [HA.out]; rfl, Step.of⟩

set_option maxRecDepth 100000 in
set_option maxHeartbeats 4000000 in
theorem jtake_yes (g : Nat) (s : ByteArray) (i : Nat) (c : Int) (w : World) (h : Pr w g s i) (hi : i < s.size) (hc : (s[i].toNat : Int) = c) (hs : s.size ≤ 65536) :
    Calls Tryd.prog 52 #[.pointer (some ⟨g, 0, none⟩), .int .u8 c] w fun e w' => e = .returned (.tuple #[]) ∧ Pr w' g s (i + 1) ∧ Mv g w w' := by
  have HB := hide h
  obtain ⟨q0, q1⟩ := At.z2 h.at0
  have lq := h.lt; have fq := h.free
  have hkl : (i : Int) < (s.size : Int) := by omega
  have hk0 : (0 : Int) ≤ (i : Int) := by omega
  have hkn : (i : Int) + 1 ≤ 9223372036854775807 := by omega
  have hdd : decide (s.size ≤ i) = false := decide_eq_false (by omega)
  have hcb : ((s[i].toNat : Int) != c) = false := by rw [hc]; exact bne_self_eq_false c
  clear h hc
  go_enter Tryd.func52, Tryd.ntmps52
  go_wp2_with fail
  go_quiet (fail)
  go_wp2_with fail
  go_end0
  have m1 : Mv g w (w.drewN nq) := Mv.fut (w' := w) (World.grownBy.refl w (some g))
  exact ⟨rfl, Pr.put (HB.out.fut (w' := w.drewN nq)) (by omega), m1.put (.int .i64 ((i : Int) + 1))⟩
set_option maxRecDepth 100000 in
set_option maxHeartbeats 4000000 in
theorem jtake_no (g : Nat) (s : ByteArray) (i : Nat) (c : Nat) (w : World) (h : Pr w g s i) (hi : i ≤ s.size) (hc : i = s.size ∨ bA s i ≠ c) (_hs : s.size ≤ 65536) :
    Calls Tryd.prog 52 #[.pointer (some ⟨g, 0, none⟩), .int .u8 (c : Int)] w fun e w' => e = .panicked [{ v := fault 300, recovered := false }] ∧ Step w w' := by
  obtain ⟨q0, q1⟩ := At.z2 h.at0
  have lq := h.lt
  by_cases hlt : i < s.size
  · have hkl : (i : Int) < (s.size : Int) := by omega
    have hk0 : (0 : Int) ≤ (i : Int) := by omega
    have hcc : ((s[i].toNat : Int) != (c : Int)) = true := by
      rw [bA_at hlt] at hc
      exact bne_iff_ne.2 (by omega)
    clear h hc
    go_enter Tryd.func52, Tryd.ntmps52
    go_wp2_with fail
    go_quiet (fail)
    go_wp2_with (go_at_call 23; (with_reducible refine (bad_any _).mono ?_); rintro e w9 ⟨rfl, rfl⟩)
    exact ⟨rfl, rfl, Step.of⟩
  · obtain rfl : i = s.size := by omega
    clear h hc
    go_enter Tryd.func52, Tryd.ntmps52
    go_wp2_with fail
    go_quiet (fail)
    go_wp2_with (go_at_call 23; (with_reducible refine (bad_any _).mono ?_); rintro e w9 ⟨rfl, rfl⟩)
    exact ⟨rfl, rfl, Step.of⟩

theorem word_step {s : ByteArray} {i : Nat} {c : UInt8} {r : List UInt8} (h : wordB s i (c :: r) = true) : ∃ h : i < s.size, s[i] = c ∧ wordB s (i + 1) r = true := by
  rw [wordB, Bool.and_eq_true] at h
  obtain ⟨h1, h2⟩ := h
  split at h1
  · rename_i hi; exact ⟨hi, by simpa using h1, h2⟩
  · cases h1
theorem word_len {s : ByteArray} : ∀ {r : List UInt8} {i : Nat}, i ≤ s.size → wordB s i r = true → i + r.length ≤ s.size
  | [], i, hi, _ => hi
  | c :: r, i, hi, h => by
    obtain ⟨h1, _, h3⟩ := word_step h
    have := word_len (i := i + 1) (by omega) h3
    rw [List.length_cons]
    omega
theorem list_at (t : ByteArray) {j : Nat} (h : j < t.size) : t.data.toList.drop j = t[j] :: t.data.toList.drop (j + 1) := by
  have h2 : j < t.data.toList.length := by rw [Array.length_toList]; exact h
  rw [List.drop_eq_getElem_cons h2]
  congr 1

/-- How a word that must be there ends. -/
def WordR (g : Nat) (s t : ByteArray) (i : Nat) (b : Bool) (e : Ending) (w' : World) : Prop := if b = true then e = .returned (.tuple #[]) ∧ Pr w' g s (i + t.size) else e = .panicked [{ v := fault 300, recovered := false }]
set_option maxRecDepth 100000 in
set_option maxHeartbeats 4000000 in
theorem jword_any (g : Nat) (s t : ByteArray) (i : Nat) (b : Bool) (w : World) (h : Pr w g s i) (hi : i ≤ s.size) (hb : wordB s i t.data.toList = b) (hs : s.size ≤ 65536) (ht : t.size ≤ 100) :
    Calls Tryd.prog 33 #[.pointer (some ⟨g, 0, none⟩), .string t] w fun e w' => WordR g s t i b e w' ∧ Mv g w w' := by
  have HH := hide h; have HBB := hide hb
  clear h hb
  have ht2 : (t.size : Int) ≤ 100 := by omega
  go_enter Tryd.func33, Tryd.ntmps33
  go_wp2_with fail
  go_loopw [4, 7] (fun _ j wr => ∃ k : Nat, k ≤ t.size ∧ i + k ≤ s.size ∧ j = .int .i64 k ∧ Hid (wordB s (i + k) (t.data.toList.drop k) = b) ∧ Pr wr g s (i + k) ∧ Mv g w wr) (fun _ j _ => t.size - (intOf j).toNat)
  case atStart => exact ⟨0, Nat.zero_le _, hi, rfl, HBB.out, HH.out, World.grownBy.refl _ _⟩
  case round =>
    obtain ⟨k, hk, hik, rfl, HW, hb, hm⟩ := hrel
    have HB := hide hb; have HM := hide hm
    clear hb hm
    obtain ⟨wo, rfl⟩ : ∃ x : World, x = wr := ⟨_, rfl⟩
    by_cases hlt : k < t.size
    · have hkl : (k : Int) < (t.size : Int) := by omega
      have hk0 : (0 : Int) ≤ (k : Int) := by omega
      have hW := HW.out
      rw [list_at t hlt] at hW
      by_cases hy : i + k < s.size ∧ bA s (i + k) = t[k].toNat
      · obtain ⟨h1, h2⟩ := hy
        have h3 : s[i + k] = t[k] := UInt8.toNat_inj.1 (by rw [← bA_at h1]; exact h2)
        have HW2 : Hid (wordB s (i + (k + 1)) (t.data.toList.drop (k + 1)) = b) := by
          show _ = _
          rw [← hW, wordB, dif_pos h1, h3, beq_self_eq_true, Bool.true_and]
          rfl
        have TK := hide (fun w' (hp : Pr w' g s (i + k)) => jtake_yes g s (i + k) (t[k].toNat : Int) w' hp h1 (by rw [h3]) hs)
        clear hW h2 h3
        go_wp2_with (go_at_call 52; (with_reducible refine (TK.out _ (HB.out.fut)).mono ?_); rintro e w5 ⟨rfl, hp5, hm5⟩; have HP5 := hide hp5; have HM5 := hide hm5; clear hp5 hm5)
        go_roundw
        case rel => exact ⟨k + 1, by omega, by omega, by go_num, HW2.out, HP5.out, grown_trans HM.out HM5.out⟩
        case measure => simp [intOf]; omega
      · have hbf : b = false := by
          cases b with
          | false => rfl
          | true =>
            obtain ⟨h1, h2, _⟩ := word_step hW
            exact absurd ⟨h1, by rw [bA_at h1, h2]⟩ hy
        have TK := hide (fun w' (hp : Pr w' g s (i + k)) => jtake_no g s (i + k) t[k].toNat w' hp hik (by omega) hs)
        clear hW hy
        go_wp2_with (go_at_call 52; (with_reducible refine (TK.out _ (HB.out.fut)).mono ?_); rintro e w5 ⟨rfl, hs5⟩)
        exact ⟨rfl, by unfold WordR; rw [if_neg (by rw [hbf]; simp)], HM.out.fut⟩
    · obtain rfl : k = t.size := by omega
      have hbt : b = true := by
        have h1 := HW.out
        rw [List.drop_of_length_le (by rw [Array.length_toList]; exact Nat.le_refl _)] at h1
        exact h1.symm
      go_wp2_with fail
      go_end0
      exact ⟨by unfold WordR; rw [if_pos hbt]; exact ⟨rfl, HB.out⟩, HM.out⟩
end Go.Proofs.YtoibfefalflooaaDoor
