/-
  The document's runes: the rune at a place; are all runes?
-/
import Derived.Test.YtoibfefalflooaaDoorYrj
namespace Go.Proofs.YtoibfefalflooaaDoor
open Go.RowKit

theorem rnext_any (s : ByteArray) (i : Nat) (j : Int) (w : World) (hj : j = i) :
    Calls Tryd.prog 66 #[.string s, .int .i64 j] w fun e w' => e = .returned (.int .i64 (nextB s i)) ∧ Step w w' := by
  subst hj
  have hi0 : (0 : Int) ≤ (i : Int) := by omega
  by_cases h : i < s.size
  · have HN := hide (next_at s h)
    have hi1 : (i : Int) < (s.size : Int) := by omega
    have hc := s[i].toNat_lt
    go_enter Tryd.func66, Tryd.ntmps66
    go_wp2_with fail
    all_goals
      go_ret
      exact ⟨ret_int (by rw [HN.out]; split <;> simp_all <;> omega), Step.of⟩
  · have HN : Hid (nextB s i = -1) := by show _ = _; rw [nextB, dif_neg h]
    have hi1 : decide ((i : Int) ≥ (s.size : Int)) = true := by simp; omega
    go_enter Tryd.func66, Tryd.ntmps66
    go_wp2_with fail
    all_goals
      go_ret
      exact ⟨ret_int HN.out.symm, Step.of⟩
theorem ret2i {a b : Int} {p : Int × Int} (h : p = (a, b)) : Ending.returned (.tuple #[.int .i64 a, .int .i64 b]) = .returned (.tuple #[.int .i64 p.1, .int .i64 p.2]) := by rw [h]
set_option maxRecDepth 100000 in
set_option maxHeartbeats 4000000 in
theorem rrune_any (s : ByteArray) (at_ : Int) (w : World) (hs2 : s.size ≤ 9223372036854775000) :
    Calls Tryd.prog 55 #[.string s, .int .i64 at_] w fun e w' => e = .returned (.tuple #[.int .i64 (runeR s at_).1, .int .i64 (runeR s at_).2]) ∧ Step w w' := by
  have hs : s.size ≤ 9223372036854775807 := by omega
  by_cases h0 : at_ < 0
  · have HR : Hid (runeR s at_ = (0, 0)) := by show _ = _; rw [runeR, if_pos h0]
    rw [HR.out]
    go_enter Tryd.func55, Tryd.ntmps55
    go_wp2_with fail
    go_ret2
    exact ⟨rfl, Step.of⟩
  by_cases h1 : s.size ≤ at_
  · have HR : Hid (runeR s at_ = (0, 0)) := by show _ = _; rw [runeR, if_neg h0, runeT, dif_neg (by omega)]
    rw [HR.out]
    go_enter Tryd.func55, Tryd.ntmps55
    go_wp2_with fail
    go_ret2
    exact ⟨rfl, Step.of⟩
  obtain ⟨i, rfl⟩ : ∃ i : Nat, at_ = (i : Int) := ⟨at_.toNat, by omega⟩
  have hi : i < s.size := by omega
  have HRR : Hid (runeR s (i : Int) = runeC (s[i].toNat : Int) (nextB s (i + 1)) (nextB s (i + 2)) (nextB s (i + 3))) := by show _ = _; rw [runeR, if_neg h0, ← runeT_at hi]; rfl
  rw [HRR.out]
  have hi0 : (0 : Int) ≤ (i : Int) := by omega
  have hi1 : (i : Int) < (s.size : Int) := by omega
  clear h0 h1 HRR
  obtain ⟨c, hc⟩ : ∃ c : Int, (s[i].toNat : Int) = c := ⟨_, rfl⟩
  have hc0 : 0 ≤ c := by omega
  have hc1 : c ≤ 255 := by have := s[i].toNat_lt; omega
  rw [hc]
  have N1 := hide (fun w' => rnext_any s (i + 1) ((i : Int) + 1) w' (by omega))
  have N2 := hide (fun w' => rnext_any s (i + 2) ((i : Int) + 2) w' (by omega))
  have N3 := hide (fun w' => rnext_any s (i + 3) ((i : Int) + 3) w' (by omega))
  obtain ⟨a0, a1⟩ := nextB_bd s (i + 1); obtain ⟨b0, b1⟩ := nextB_bd s (i + 2); obtain ⟨d0, d1⟩ := nextB_bd s (i + 3)
  generalize nextB s (i + 1) = a at *
  generalize nextB s (i + 2) = b at *
  generalize nextB s (i + 3) = d at *
  obtain ⟨T, hT⟩ : ∃ T, runeC c a b d = T := ⟨_, rfl⟩
  have HT := hide hT
  rw [hT]
  clear hT
  go_enter Tryd.func55, Tryd.ntmps55
  go_wp2_with (first | ((with_reducible refine (N1.out _).mono ?_); rintro e w1 ⟨rfl, hs1⟩) | ((with_reducible refine (N2.out _).mono ?_); rintro e w2 ⟨rfl, hs2⟩) | ((with_reducible refine (N3.out _).mono ?_); rintro e w3 ⟨rfl, hs3⟩))
  all_goals
    go_ret2
    refine ⟨ret2i ?_, Step.of⟩
    rw [← HT.out]
    clear HT N1 N2 N3
    unfold runeC
    (repeat' split) <;> first | rfl | (exfalso; omega) | (simp only [Prod.mk.injEq]; omega)
set_option maxRecDepth 10000 in
set_option maxHeartbeats 1000000 in
theorem rfirst_any (s : ByteArray) (w : World) (hs : s.size ≤ 9223372036854775000) : Calls Tryd.prog 61 #[.string s] w fun e w' => e = .returned (.int .i64 (firstR s)) ∧ Step w w' := by
  obtain ⟨T, hT⟩ : ∃ T, firstR s = T := ⟨_, rfl⟩
  have HT := hide hT
  rw [hT]
  clear hT
  go_enter Tryd.func61, Tryd.ntmps61
  go_wp2_with fail
  go_loopw [3, 4, 5] (fun k _ _ wr => ∃ (i f : Nat), i ≤ s.size ∧ s.size < i + f ∧ k = .int .i64 i ∧ Hid (firstN f s i = T) ∧ Step w wr) (fun k _ _ _ => s.size - (intOf k).toNat)
  case atStart => exact ⟨0, s.size + 1, by omega, by omega, rfl, HT.out, Step.of⟩
  case round =>
    obtain ⟨i, f, hi, hf, rfl, HF, hst⟩ := hrel
    obtain ⟨wo, rfl⟩ : ∃ x : World, x = wr := ⟨_, rfl⟩
    by_cases hlt : i < s.size
    · obtain ⟨f, rfl⟩ : ∃ g, f = g + 1 := ⟨f - 1, by omega⟩
      have RU := hide (fun w' => rrune_any s (i : Int) w' hs)
      have he : runeR s (i : Int) = runeT s i := by rw [runeR, if_neg (by omega)]; rfl
      rw [he] at RU
      obtain ⟨hb0, hb1, hb2⟩ := runeT_bd s i
      have HST := hide (firstN_step (f := f) hlt)
      have HSP := hide (firstN_stop (f := f) hlt)
      generalize runeT s i = rt at RU hb0 hb1 hb2 HST HSP
      obtain ⟨r, k⟩ := rt
      simp only at RU hb0 hb1 hb2 HST HSP
      clear he
      by_cases hk : k = 0
      · have HE := hide (HSP.out hk)
        subst hk
        have HTE : Hid (T = (i : Int)) := by show _ = _; rw [← HF.out, HE.out]
        clear HST HSP HE hb0 hb1 hb2
        go_wp2_with (refine (RU.out _).mono ?_; rintro e w3 ⟨rfl, hs3⟩)
        go_ret
        exact ⟨ret_int HTE.out.symm, Step.of⟩
      · obtain ⟨n, rfl⟩ : ∃ n : Nat, k = n := ⟨k.toNat, by omega⟩
        have HE := hide (HST.out hk)
        have hn : i + n ≤ s.size := by have := hb2 (by omega); simpa using this
        have hn0 : 0 < n := by omega
        have hk2 : ((n : Int) == 0) = false := by simp; omega
        have hn4 : n ≤ 4 := by omega
        clear HST HSP hb0 hb1 hb2 hk
        go_wp2_with (refine (RU.out _).mono ?_; rintro e w3 ⟨rfl, hs3⟩)
        go_roundw
        case rel => exact ⟨i + n, f, hn, by omega, by go_num, by show _ = _; rw [← HF.out, HE.out]; simp, Step.of⟩
        case measure => simp [intOf]; omega
    · have HTE : Hid (T = -1) := by show _ = _; rw [← HF.out, firstN_end (by omega)]
      go_wp2_with fail
      go_ret
      exact ⟨ret_int HTE.out.symm, Step.of⟩
theorem rvalid_any (s : ByteArray) (w : World) (hs : s.size ≤ 9223372036854775000) : Calls Tryd.prog 47 #[.string s] w fun e w' => e = .returned (.bool (validB s)) ∧ Step w w' := by
  have UF := hide (fun w' => rfirst_any s w' hs)
  have HV := hide (firstR_eq s)
  rw [← HV.out]
  generalize firstR s = r at UF
  clear HV
  go_enter Tryd.func47, Tryd.ntmps47
  go_wp2_with (refine (UF.out _).mono ?_; rintro e w3 ⟨rfl, hs3⟩)
  go_ret
  exact ⟨rfl, Step.of⟩
end Go.Proofs.YtoibfefalflooaaDoor
