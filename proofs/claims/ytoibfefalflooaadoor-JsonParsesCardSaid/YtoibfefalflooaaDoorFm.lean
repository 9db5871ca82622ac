/-
  The document's parser: a number below 0.
-/
import Derived.Test.YtoibfefalflooaaDoorF2
namespace Go.Proofs.YtoibfefalflooaaDoor
open Go.RowKit

set_option maxRecDepth 100000 in
set_option maxHeartbeats 16000000 in
theorem dnum_minus (g : Nat) (s : ByteArray) (i : Nat) (w : World) (h : Dp w g s i 0) (hi : i ≤ s.size) (hm : bA s i = 45) (hs : s.size ≤ 65536) :
    Calls Tryd.prog 41 #[.pointer (some ⟨g, 0, none⟩)] w fun e w' => NumD g s (dnumP s i) e w' ∧ Mv g w w' := by
  have HH := hide h
  have hlb := h.lt
  have WD := dword_any g s ⟨#[45]⟩ i 0 true w h hi (by rw [show (⟨#[45]⟩ : ByteArray).data.toList = [45] from rfl, word_one 45 (by decide)]; rw [hm]; rfl) hs (by decide)
  have HNP : Hid (numM s true (i + 1) (digN s (s.size - (i + 1)) (i + 1) 0) = numP s i) := by show _ = _; rw [numP, if_pos hm]; rfl
  have him : i < s.size := bA_lt (by omega)
  obtain ⟨i1, hi1⟩ : ∃ i1, i1 = (i + 1) := ⟨_, rfl⟩
  have HNP : Hid (numM s true i1 (digN s (s.size - i1) i1 0) = numP s i) := by show _ = _; rw [hi1]; exact HNP.out
  rw [show (if true = true then i + (⟨#[45]⟩ : ByteArray).size else i) = i1 by rw [hi1]; rfl] at WD
  have WD := hide WD
  have hi1s : i1 ≤ s.size := by omega
  clear h hm hi1
  go_enter Tryd.func41, Tryd.ntmps41
  go_upto_region 2 with (go_at_call 37; (with_reducible refine WD.out.mono ?_); rintro e w2 ⟨rfl, hp2, hm2⟩; have HP2 := hide hp2; have HM2 := hide hm2; clear hp2 hm2)
  obtain ⟨q0, q1, q2⟩ := At.z3 HP2.out.at0
  have lq := HP2.out.lt
  go_wp2_with fail
  clear q0 q1 q2 lq
  go_loopw [5] (fun t wr => ∃ (k : Nat) (x : Nat), i1 ≤ k ∧ k ≤ s.size ∧ t = .int .i64 (-(x : Int)) ∧ x ≤ 9223372036854775808 ∧ Hid (digN s (s.size - k) k x = digN s (s.size - i1) i1 0) ∧ Dp wr g s k 0 ∧ Mv g w wr) (fun _ wr => s.size - posOf (wr.cell? ⟨g, 1, none⟩))
  case atStart => exact ⟨i1, 0, Nat.le_refl _, hi1s, rfl, by omega, rfl, HP2.out, HM2.out⟩
  case round =>
    obtain ⟨k, x, hik, hk, rfl, hX1, HD, hb, hmv⟩ := hrel
    have HB := hide hb; have HM := hide hmv
    obtain ⟨q0, q1, q2⟩ := At.z3 hb.at0
    have lq := hb.lt; have fq := hb.free
    clear hb hmv
    obtain ⟨wo, rfl⟩ : ∃ x : World, x = wr := ⟨_, rfl⟩
    by_cases hks : k < s.size
    · have hkl : (k : Int) < (s.size : Int) := by omega
      have hk0 : (0 : Int) ≤ (k : Int) := by omega
      have hc := s[k].toNat_lt
      have hA := bA_at hks
      obtain ⟨c, hcc⟩ : ∃ c : Nat, s[k].toNat = c := ⟨_, rfl⟩
      rw [hcc] at hA hc
      have hC : (s[k].toNat : Int) = (c : Int) := by rw [hcc]
      cases hd : isD (bA s k) with
      | true =>
        have hd2 : 48 ≤ bA s k ∧ bA s k ≤ 57 := by simpa [isD] using hd
        have c1 : (c : Int) ≥ 48 := by omega
        have c2 : (c : Int) ≤ 57 := by omega
        have w2 : IntKind.u8.wrap ((c : Int) - 48) = (c : Int) - 48 := by rw [IntKind.wrap_u8]; omega
        by_cases hov : 9223372036854775808 < 10 * x + (c - 48)
        · have HTD : Hid (dnumP s i = none) := by
            show _ = _
            have h1 := num_over (m := true) (i1 := i1) hd (by rw [hA]; exact hov)
            rw [HD.out, HNP.out] at h1
            rw [dnumP, h1]
          have o3 : -(x : Int) < -922337203685477580 ∨ (¬ -(x : Int) < -922337203685477580 ∧ (-(x : Int) == -922337203685477580) = true ∧ (c : Int) - 48 > 8) := by
            simp only [beq_iff_eq]
            omega
          clear hd hd2 hA hcc hov hX1
          rcases o3 with o1 | ⟨o1, o2, o3⟩
          all_goals
            go_wp2_with fail
            go_quiet (fail)
            go_wp2_with fail
            go_quiet (fail)
            go_wp2_with (go_at_call 26; (with_reducible refine (dfail_any g s _ 300 _ HB.out.fut).mono ?_); rintro e w9 ⟨rfl, hp9, hm9⟩; have HP9 := hide hp9; have HM9 := hide hm9; clear hp9 hm9)
            go_ret
            exact ⟨by rw [HTD.out]; exact ⟨_, _, rfl, HP9.out, hk⟩, grown_trans HM.out.fut HM9.out⟩
        · have HD2 : Hid (digN s (s.size - (k + 1)) (k + 1) (10 * x + (c - 48)) = digN s (s.size - i1) i1 0) := by
            show _ = _
            rw [← HD.out, dig_more hd (by omega), hA]
          have hn10 : -9223372036854775808 ≤ 10 * -(x : Int) := by omega
          have hn11 : -9223372036854775808 ≤ 10 * -(x : Int) - ((c : Int) - 48) := by omega
          have HNX := hide (Nat.le_of_not_lt hov)
          have o3 : (¬ -(x : Int) < -922337203685477580 ∧ (-(x : Int) == -922337203685477580) = false) ∨ (¬ -(x : Int) < -922337203685477580 ∧ (-(x : Int) == -922337203685477580) = true ∧ ¬ (c : Int) - 48 > 8) := by
            simp only [beq_iff_eq, beq_eq_false_iff_ne]
            omega
          have w3 : wrap64 (10 * -(x : Int)) = 10 * -(x : Int) := by rw [wrap64]; omega
          have w4 : wrap64 (10 * -(x : Int) - ((c : Int) - 48)) = 10 * -(x : Int) - ((c : Int) - 48) := by rw [wrap64]; omega
          clear hd hd2 hA hcc hov hX1
          rcases o3 with ⟨o1, o2⟩ | ⟨o1, o2, o3⟩
          all_goals
            go_wp2_with fail
            go_quiet (fail)
            go_wp2_with fail
            go_quiet (fail)
            go_wp2_with fail
            go_roundw
            case rel => exact ⟨k + 1, 10 * x + (c - 48), by omega, by omega, by congr 1; omega, HNX.out, HD2.out, Dp.put HB.out.fut (by omega), Mv.put HM.out.fut _⟩
            case measure =>
              rw [Dp.pos (Dp.put (j := (k : Int) + 1) (n := k + 1) HB.out.fut (by omega)), Dp.pos HB.out]
              omega
      | false =>
        have hd2 : ¬ (48 ≤ bA s k ∧ bA s k ≤ 57) := by simp [isD] at hd; omega
        have hcx : (¬ (c : Int) ≥ 48 ∧ (c : Int) < 48 ∧ decide ((c : Int) ≥ 48) = false ∧ decide (48 ≤ (c : Int)) = false ∧ decide (48 ≤ c) = false) ∨ ((c : Int) ≥ 48 ∧ ¬ (c : Int) ≤ 57 ∧ 57 < (c : Int) ∧ decide ((c : Int) ≤ 57) = false ∧ decide (c ≤ 57) = false) := by
          by_cases h5 : c < 48
          · exact .inl ⟨by omega, by omega, decide_eq_false (by omega), decide_eq_false (by omega), decide_eq_false (by omega)⟩
          · exact .inr ⟨by omega, by omega, by omega, decide_eq_false (by omega), decide_eq_false (by omega)⟩
        have HDE : Hid (numE true i1 (bA s i1) x k = numP s i) := by
          have h1 := HD.out
          rw [dig_end hd] at h1
          show _ = _
          rw [← HNP.out, ← h1]
          rfl
        have HDF := hide hd
        clear hd hd2
        rcases hcx with ⟨x1, x3, x4, x5, x6⟩ | ⟨x1, x2, x3, x4, x5⟩
        · go_wp2_with fail
          go_quiet (fail)
          go_upto_region 11 with fail
          obtain ⟨n, hn⟩ : ∃ n : Nat, n = k - i1 := ⟨_, rfl⟩
          have hsub : (k : Int) - (i1 : Int) = (n : Int) := by omega
          by_cases h0 : n = 0
          · have HTD : Hid (dnumP s i = none) := by show _ = _; rw [dnumP, ← HDE.out, numE, if_pos (.inl (by omega))]
            rw [h0] at hsub
            clear hX1 HDE HDF
            go_wp2_with (go_at_call 26; (with_reducible refine (dfail_any g s _ 300 _ HB.out.fut).mono ?_); rintro e w9 ⟨rfl, hp9, hm9⟩; have HP9 := hide hp9; have HM9 := hide hm9; clear hp9 hm9)
            go_ret
            exact ⟨by rw [HTD.out]; exact ⟨_, _, rfl, HP9.out, hk⟩, grown_trans HM.out.fut HM9.out⟩
          have hn0 : ((n : Int) == 0) = false := beq_eq_false_iff_ne.2 (by omega)
          have hi1k : i1 < s.size := by omega
          have hs1 := bA_at hi1k
          have hb1 := s[i1].toNat_lt
          have hi10 : (0 : Int) ≤ (i1 : Int) := by omega
          have hi11 : (i1 : Int) < (s.size : Int) := by omega
          obtain ⟨Z, hZ⟩ : ∃ Z : Int, (s[i1].toNat : Int) = Z := ⟨_, rfl⟩
          by_cases hz : 1 < n ∧ bA s i1 = 48
          · have HTD : Hid (dnumP s i = none) := by show _ = _; rw [dnumP, ← HDE.out, numE, if_pos (.inr (.inl (by omega)))]
            have z1 : (n : Int) > 1 := by omega
            have z2 : Z = 48 := by omega
            subst z2
            clear hX1 HDE HDF
            go_wp2_with (go_at_call 26; (with_reducible refine (dfail_any g s _ 300 _ HB.out.fut).mono ?_); rintro e w9 ⟨rfl, hp9, hm9⟩; have HP9 := hide hp9; have HM9 := hide hm9; clear hp9 hm9)
            go_ret
            exact ⟨by rw [HTD.out]; exact ⟨_, _, rfl, HP9.out, hk⟩, grown_trans HM.out.fut HM9.out⟩
          have hz2 : ¬ (n : Int) > 1 ∨ ((n : Int) > 1 ∧ (Z == 48) = false) := by
            by_cases h1 : 1 < n
            · exact .inr ⟨by omega, beq_eq_false_iff_ne.2 (by omega)⟩
            · exact .inl (by omega)
          by_cases hx0 : x = 0
          · have HTD : Hid (dnumP s i = none) := by show _ = _; rw [dnumP, ← HDE.out, numE, if_pos (.inr (.inr ⟨rfl, by omega⟩))]
            have hxb : (-(x : Int) == 0) = true := beq_iff_eq.2 (by omega)
            clear hX1 HDE HDF
            rcases hz2 with z1 | ⟨z1, z2⟩
            all_goals
              go_wp2_with (go_at_call 26; (with_reducible refine (dfail_any g s _ 300 _ HB.out.fut).mono ?_); rintro e w9 ⟨rfl, hp9, hm9⟩; have HP9 := hide hp9; have HM9 := hide hm9; clear hp9 hm9)
              go_ret
              exact ⟨by rw [HTD.out]; exact ⟨_, _, rfl, HP9.out, hk⟩, grown_trans HM.out.fut HM9.out⟩
          have hxb : (-(x : Int) == 0) = false := beq_eq_false_iff_ne.2 (by omega)
          have HT : Hid (numP s i = some (-(x : Int), k)) := by show _ = _; rw [← HDE.out, numE, if_neg (by omega), if_pos ⟨rfl, by omega⟩]
          by_cases p46 : bA s k = 46
          · have HTD : Hid (dnumP s i = none) := by show _ = _; rw [dnumP, HT.out]; exact if_pos (by omega)
            have e46 : ((c : Int) == 46) = true := beq_iff_eq.2 (by omega)
            clear hX1 HDE HDF
            rcases hz2 with z1 | ⟨z1, z2⟩
            all_goals
              go_wp2_with fail
              go_quiet (fail)
              go_wp2_with (go_at_call 26; (with_reducible refine (dfail_any g s _ 300 _ HB.out.fut).mono ?_); rintro e w9 ⟨rfl, hp9, hm9⟩; have HP9 := hide hp9; have HM9 := hide hm9; clear hp9 hm9)
              go_ret
              exact ⟨by rw [HTD.out]; exact ⟨_, _, rfl, HP9.out, hk⟩, grown_trans HM.out.fut HM9.out⟩
          · have HTD : Hid (dnumP s i = some (-(x : Int), k)) := by show _ = _; rw [dnumP, HT.out]; exact if_neg (by omega)
            have e46 : ((c : Int) == 46) = false := beq_eq_false_iff_ne.2 (by omega)
            have e101 : ((c : Int) == 101) = false := beq_eq_false_iff_ne.2 (by omega)
            have e69 : ((c : Int) == 69) = false := beq_eq_false_iff_ne.2 (by omega)
            have hv : -9223372036854775808 ≤ (-(x : Int) : Int) ∧ (-(x : Int) : Int) ≤ 9223372036854775807 := by omega
            have HV := hide hv
            clear hv
            clear hX1 HDE HDF
            rcases hz2 with z1 | ⟨z1, z2⟩
            all_goals
              go_wp2_with fail
              go_quiet (fail)
              go_wp2_with fail
              go_ret
              exact ⟨by rw [HTD.out]; exact ⟨rfl, HB.out.fut, hk, HV.out⟩, HM.out.fut⟩
        · go_wp2_with fail
          go_quiet (fail)
          go_upto_region 11 with fail
          obtain ⟨n, hn⟩ : ∃ n : Nat, n = k - i1 := ⟨_, rfl⟩
          have hsub : (k : Int) - (i1 : Int) = (n : Int) := by omega
          by_cases h0 : n = 0
          · have HTD : Hid (dnumP s i = none) := by show _ = _; rw [dnumP, ← HDE.out, numE, if_pos (.inl (by omega))]
            rw [h0] at hsub
            clear hX1 HDE HDF
            go_wp2_with (go_at_call 26; (with_reducible refine (dfail_any g s _ 300 _ HB.out.fut).mono ?_); rintro e w9 ⟨rfl, hp9, hm9⟩; have HP9 := hide hp9; have HM9 := hide hm9; clear hp9 hm9)
            go_ret
            exact ⟨by rw [HTD.out]; exact ⟨_, _, rfl, HP9.out, hk⟩, grown_trans HM.out.fut HM9.out⟩
          have hn0 : ((n : Int) == 0) = false := beq_eq_false_iff_ne.2 (by omega)
          have hi1k : i1 < s.size := by omega
          have hs1 := bA_at hi1k
          have hb1 := s[i1].toNat_lt
          have hi10 : (0 : Int) ≤ (i1 : Int) := by omega
          have hi11 : (i1 : Int) < (s.size : Int) := by omega
          obtain ⟨Z, hZ⟩ : ∃ Z : Int, (s[i1].toNat : Int) = Z := ⟨_, rfl⟩
          by_cases hz : 1 < n ∧ bA s i1 = 48
          · have HTD : Hid (dnumP s i = none) := by show _ = _; rw [dnumP, ← HDE.out, numE, if_pos (.inr (.inl (by omega)))]
            have z1 : (n : Int) > 1 := by omega
            have z2 : Z = 48 := by omega
            subst z2
            clear hX1 HDE HDF
            go_wp2_with (go_at_call 26; (with_reducible refine (dfail_any g s _ 300 _ HB.out.fut).mono ?_); rintro e w9 ⟨rfl, hp9, hm9⟩; have HP9 := hide hp9; have HM9 := hide hm9; clear hp9 hm9)
            go_ret
            exact ⟨by rw [HTD.out]; exact ⟨_, _, rfl, HP9.out, hk⟩, grown_trans HM.out.fut HM9.out⟩
          have hz2 : ¬ (n : Int) > 1 ∨ ((n : Int) > 1 ∧ (Z == 48) = false) := by
            by_cases h1 : 1 < n
            · exact .inr ⟨by omega, beq_eq_false_iff_ne.2 (by omega)⟩
            · exact .inl (by omega)
          by_cases hx0 : x = 0
          · have HTD : Hid (dnumP s i = none) := by show _ = _; rw [dnumP, ← HDE.out, numE, if_pos (.inr (.inr ⟨rfl, by omega⟩))]
            have hxb : (-(x : Int) == 0) = true := beq_iff_eq.2 (by omega)
            clear hX1 HDE HDF
            rcases hz2 with z1 | ⟨z1, z2⟩
            all_goals
              go_wp2_with (go_at_call 26; (with_reducible refine (dfail_any g s _ 300 _ HB.out.fut).mono ?_); rintro e w9 ⟨rfl, hp9, hm9⟩; have HP9 := hide hp9; have HM9 := hide hm9; clear hp9 hm9)
              go_ret
              exact ⟨by rw [HTD.out]; exact ⟨_, _, rfl, HP9.out, hk⟩, grown_trans HM.out.fut HM9.out⟩
          have hxb : (-(x : Int) == 0) = false := beq_eq_false_iff_ne.2 (by omega)
          have HT : Hid (numP s i = some (-(x : Int), k)) := by show _ = _; rw [← HDE.out, numE, if_neg (by omega), if_pos ⟨rfl, by omega⟩]
          by_cases p101 : bA s k = 101
          · have HTD : Hid (dnumP s i = none) := by show _ = _; rw [dnumP, HT.out]; exact if_pos (by omega)
            have e46 : ((c : Int) == 46) = false := beq_eq_false_iff_ne.2 (by omega)
            have e101 : ((c : Int) == 101) = true := beq_iff_eq.2 (by omega)
            clear hX1 HDE HDF
            rcases hz2 with z1 | ⟨z1, z2⟩
            all_goals
              go_wp2_with fail
              go_quiet (fail)
              go_wp2_with (go_at_call 26; (with_reducible refine (dfail_any g s _ 300 _ HB.out.fut).mono ?_); rintro e w9 ⟨rfl, hp9, hm9⟩; have HP9 := hide hp9; have HM9 := hide hm9; clear hp9 hm9)
              go_ret
              exact ⟨by rw [HTD.out]; exact ⟨_, _, rfl, HP9.out, hk⟩, grown_trans HM.out.fut HM9.out⟩
          by_cases p69 : bA s k = 69
          · have HTD : Hid (dnumP s i = none) := by show _ = _; rw [dnumP, HT.out]; exact if_pos (by omega)
            have e46 : ((c : Int) == 46) = false := beq_eq_false_iff_ne.2 (by omega)
            have e101 : ((c : Int) == 101) = false := beq_eq_false_iff_ne.2 (by omega)
            have e69 : ((c : Int) == 69) = true := beq_iff_eq.2 (by omega)
            clear hX1 HDE HDF
            rcases hz2 with z1 | ⟨z1, z2⟩
            all_goals
              go_wp2_with fail
              go_quiet (fail)
              go_wp2_with (go_at_call 26; (with_reducible refine (dfail_any g s _ 300 _ HB.out.fut).mono ?_); rintro e w9 ⟨rfl, hp9, hm9⟩; have HP9 := hide hp9; have HM9 := hide hm9; clear hp9 hm9)
              go_ret
              exact ⟨by rw [HTD.out]; exact ⟨_, _, rfl, HP9.out, hk⟩, grown_trans HM.out.fut HM9.out⟩
          · have HTD : Hid (dnumP s i = some (-(x : Int), k)) := by show _ = _; rw [dnumP, HT.out]; exact if_neg (by omega)
            have e46 : ((c : Int) == 46) = false := beq_eq_false_iff_ne.2 (by omega)
            have e101 : ((c : Int) == 101) = false := beq_eq_false_iff_ne.2 (by omega)
            have e69 : ((c : Int) == 69) = false := beq_eq_false_iff_ne.2 (by omega)
            have hv : -9223372036854775808 ≤ (-(x : Int) : Int) ∧ (-(x : Int) : Int) ≤ 9223372036854775807 := by omega
            have HV := hide hv
            clear hv
            clear hX1 HDE HDF
            rcases hz2 with z1 | ⟨z1, z2⟩
            all_goals
              go_wp2_with fail
              go_quiet (fail)
              go_wp2_with fail
              go_ret
              exact ⟨by rw [HTD.out]; exact ⟨rfl, HB.out.fut, hk, HV.out⟩, HM.out.fut⟩
    · have hke : k = s.size := by omega
      have HDF := hide hke
      have hkk : ¬ (k : Int) < (s.size : Int) := by omega
      have hkk2 : (s.size : Int) ≤ (k : Int) := by omega
      have hkk3 : decide ((k : Int) < (s.size : Int)) = false := decide_eq_false hkk
      have hkk4 : decide (k < s.size) = false := decide_eq_false (by omega)
      have HDE : Hid (numE true i1 (bA s i1) x k = numP s i) := by
        have h1 := HD.out
        rw [dig_end (by rw [bA_end (by omega)]; rfl)] at h1
        show _ = _
        rw [← HNP.out, ← h1]
        rfl
      go_wp2_with fail
      go_quiet (fail)
      go_upto_region 11 with fail
      obtain ⟨n, hn⟩ : ∃ n : Nat, n = k - i1 := ⟨_, rfl⟩
      have hsub : (k : Int) - (i1 : Int) = (n : Int) := by omega
      by_cases h0 : n = 0
      · have HTD : Hid (dnumP s i = none) := by show _ = _; rw [dnumP, ← HDE.out, numE, if_pos (.inl (by omega))]
        rw [h0] at hsub
        clear hX1 HDE HDF
        go_wp2_with (go_at_call 26; (with_reducible refine (dfail_any g s _ 300 _ HB.out.fut).mono ?_); rintro e w9 ⟨rfl, hp9, hm9⟩; have HP9 := hide hp9; have HM9 := hide hm9; clear hp9 hm9)
        go_ret
        exact ⟨by rw [HTD.out]; exact ⟨_, _, rfl, HP9.out, hk⟩, grown_trans HM.out.fut HM9.out⟩
      have hn0 : ((n : Int) == 0) = false := beq_eq_false_iff_ne.2 (by omega)
      have hi1k : i1 < s.size := by omega
      have hs1 := bA_at hi1k
      have hb1 := s[i1].toNat_lt
      have hi10 : (0 : Int) ≤ (i1 : Int) := by omega
      have hi11 : (i1 : Int) < (s.size : Int) := by omega
      obtain ⟨Z, hZ⟩ : ∃ Z : Int, (s[i1].toNat : Int) = Z := ⟨_, rfl⟩
      by_cases hz : 1 < n ∧ bA s i1 = 48
      · have HTD : Hid (dnumP s i = none) := by show _ = _; rw [dnumP, ← HDE.out, numE, if_pos (.inr (.inl (by omega)))]
        have z1 : (n : Int) > 1 := by omega
        have z2 : Z = 48 := by omega
        subst z2
        clear hX1 HDE HDF
        go_wp2_with (go_at_call 26; (with_reducible refine (dfail_any g s _ 300 _ HB.out.fut).mono ?_); rintro e w9 ⟨rfl, hp9, hm9⟩; have HP9 := hide hp9; have HM9 := hide hm9; clear hp9 hm9)
        go_ret
        exact ⟨by rw [HTD.out]; exact ⟨_, _, rfl, HP9.out, hk⟩, grown_trans HM.out.fut HM9.out⟩
      have hz2 : ¬ (n : Int) > 1 ∨ ((n : Int) > 1 ∧ (Z == 48) = false) := by
        by_cases h1 : 1 < n
        · exact .inr ⟨by omega, beq_eq_false_iff_ne.2 (by omega)⟩
        · exact .inl (by omega)
      by_cases hx0 : x = 0
      · have HTD : Hid (dnumP s i = none) := by show _ = _; rw [dnumP, ← HDE.out, numE, if_pos (.inr (.inr ⟨rfl, by omega⟩))]
        have hxb : (-(x : Int) == 0) = true := beq_iff_eq.2 (by omega)
        clear hX1 HDE HDF
        rcases hz2 with z1 | ⟨z1, z2⟩
        all_goals
          go_wp2_with (go_at_call 26; (with_reducible refine (dfail_any g s _ 300 _ HB.out.fut).mono ?_); rintro e w9 ⟨rfl, hp9, hm9⟩; have HP9 := hide hp9; have HM9 := hide hm9; clear hp9 hm9)
          go_ret
          exact ⟨by rw [HTD.out]; exact ⟨_, _, rfl, HP9.out, hk⟩, grown_trans HM.out.fut HM9.out⟩
      have hxb : (-(x : Int) == 0) = false := beq_eq_false_iff_ne.2 (by omega)
      have HT : Hid (numP s i = some (-(x : Int), k)) := by show _ = _; rw [← HDE.out, numE, if_neg (by omega), if_pos ⟨rfl, by omega⟩]
      have HTD : Hid (dnumP s i = some (-(x : Int), k)) := by show _ = _; rw [dnumP, HT.out]; exact if_neg (by rw [bA_end (by omega)]; decide)
      have hv : -9223372036854775808 ≤ (-(x : Int) : Int) ∧ (-(x : Int) : Int) ≤ 9223372036854775807 := by omega
      have HV := hide hv
      clear hv
      clear hX1 HDE HDF
      rcases hz2 with z1 | ⟨z1, z2⟩
      all_goals
        go_wp2_with fail
        go_quiet (fail)
        go_wp2_with fail
        go_ret
        exact ⟨by rw [HTD.out]; exact ⟨rfl, HB.out.fut, hk, HV.out⟩, HM.out.fut⟩
end Go.Proofs.YtoibfefalflooaaDoor
