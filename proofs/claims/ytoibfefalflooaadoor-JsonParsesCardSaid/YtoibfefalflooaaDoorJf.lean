/-
  The program's parser: a number.
-/
import Derived.Test.YtoibfefalflooaaDoorJe
namespace Go.Proofs.YtoibfefalflooaaDoor
open Go.RowKit

/-- How a number that must be there ends. -/
def NumR (g : Nat) (s : ByteArray) (r : Option (Int × Nat)) (e : Ending) (w' : World) : Prop :=
  match r with
  | some (v, k) => e = .returned (.int .i64 v) ∧ Pr w' g s k ∧ k ≤ s.size ∧ -9223372036854775808 ≤ v ∧ v ≤ 9223372036854775807
  | none => e = .panicked [{ v := fault 300, recovered := false }]
theorem dig_more {s : ByteArray} {k x : Nat} (h : isD (bA s k) = true) (hx : ¬ 1152921504606846976 < x) : digN s (s.size - k) k x = digN s (s.size - (k + 1)) (k + 1) (10 * x + (bA s k - 48)) := by
  have hk := isD_lt h
  rw [show s.size - k = s.size - (k + 1) + 1 by omega, digN, if_pos h, if_neg hx]
theorem dig_over {s : ByteArray} {k x : Nat} (h : isD (bA s k) = true) (hx : 1152921504606846976 < x) : digN s (s.size - k) k x = none := by
  have hk := isD_lt h
  rw [show s.size - k = s.size - (k + 1) + 1 by omega, digN, if_pos h, if_pos hx]
theorem dig_end {s : ByteArray} {k x : Nat} (h : isD (bA s k) = false) : digN s (s.size - k) k x = some (x, k) := by
  cases s.size - k with
  | zero => rfl
  | succ f => rw [digN, if_neg (by rw [h]; simp)]

set_option maxRecDepth 100000 in
set_option maxHeartbeats 16000000 in
theorem jnumber_any (g : Nat) (s : ByteArray) (i : Nat) (r : Option (Int × Nat)) (w : World) (h : Pr w g s i) (hi : i ≤ s.size) (hr : numP s i = r) (hs : s.size ≤ 65536) :
    Calls Tryd.prog 36 #[.pointer (some ⟨g, 0, none⟩)] w fun e w' => NumR g s r e w' ∧ Mv g w w' := by
  have HH := hide h
  have hlb := h.lt
  clear h
  have NX := hide (fun (j : Nat) (hj : j ≤ s.size) w' (hp : Pr w' g s j) => jnext_any g s j w' hp hj hs)
  by_cases hm : bA s i = 45
  · have him : i < s.size := bA_lt (by omega)
    have HR : Hid ((match digN s (s.size - (i + 1)) (i + 1) 0 with | none => none | some (x, i2) => numE true (i + 1) (bA s (i + 1)) x i2) = r) := by show _ = _; rw [← hr, numP, if_pos hm]; rfl
    have N0 := NX.out i hi
    rw [hm] at N0
    have N0 := hide N0
    clear hr hm
    go_enter Tryd.func36, Tryd.ntmps36
    go_wp2_with (go_at_call 32; (with_reducible refine (N0.out _ HH.out).mono ?_); rintro e w2 ⟨rfl, hs2⟩; have b2 := HH.out.fut (w' := w2); obtain ⟨q0, q1⟩ := At.z2 b2.at0; have lq := b2.lt; have fq := b2.free; have HB2 := hide b2; clear b2)
    have HB : Hid (Pr (w2.setCell ⟨g, 1, none⟩ (.int .i64 ((i : Int) + 1))) g s (i + 1)) := Pr.put HB2.out (by omega)
    have HM : Hid (Mv g w (w2.setCell ⟨g, 1, none⟩ (.int .i64 ((i : Int) + 1)))) := (Mv.of_step hs2).put _
    obtain ⟨X, hX⟩ : ∃ x : World, x = w2.setCell ⟨g, 1, none⟩ (.int .i64 ((i : Int) + 1)) := ⟨_, rfl⟩
    rw [← hX] at HB HM
    rw [← hX]
    clear hX q0 q1 lq fq HB2
    obtain ⟨i1, hi1⟩ : ∃ i1, i1 = i + 1 := ⟨_, rfl⟩
    have hic : (i : Int) + 1 = (i1 : Int) := by omega
    rw [← hi1] at HB HR
    rw [hic]
    have hi1s : i1 ≤ s.size := by omega
    clear hi1 hic him
    have hpx := HB.out
    obtain ⟨p0, p1⟩ := At.z2 hpx.at0
    have lp := hpx.lt
    clear hpx
    go_wp2_with fail
    clear p0 p1 lp
    go_loopw [5] (fun t wr => ∃ (k : Nat) (x : Int), i1 ≤ k ∧ k ≤ s.size ∧ t = .int .u64 x ∧ 0 ≤ x ∧ x ≤ 11529215046068469769 ∧ Hid (digN s (s.size - k) k x.toNat = digN s (s.size - i1) i1 0) ∧ Pr wr g s k ∧ Mv g w wr) (fun _ wr => s.size - posOf (wr.cell? ⟨g, 1, none⟩))
    case atStart => exact ⟨i1, 0, Nat.le_refl _, hi1s, rfl, by omega, by omega, rfl, HB.out, HM.out⟩
    case round =>
      clear HB HM
      obtain ⟨k, x, hik, hk, rfl, hX0, hX1, HD, hb, hmv⟩ := hrel
      have HB := hide hb; have HM := hide hmv
      clear hb hmv
      obtain ⟨wo, rfl⟩ : ∃ x : World, x = wr := ⟨_, rfl⟩
      have NK := NX.out k hk
      have hcb := bA_bd s k
      cases hd : isD (bA s k) with
      | true =>
        have hd2 : 48 ≤ bA s k ∧ bA s k ≤ 57 := by simpa [isD] using hd
        have hks := isD_lt hd
        obtain ⟨C, hC⟩ : ∃ C : Int, (bA s k : Int) = C := ⟨_, rfl⟩
        have c1 : C ≥ 48 := by omega
        have c2 : C ≤ 57 := by omega
        by_cases hov : x > 1152921504606846976
        · have HT : Hid (r = none) := by
            show _ = _
            have h1 := HD.out
            rw [dig_over hd (by omega)] at h1
            rw [← HR.out, ← h1]
          rw [hC] at NK
          have NK := hide NK
          obtain ⟨q0, q1⟩ := At.z2 HB.out.at0
          have lq := HB.out.lt
          have fq := HB.out.free
          clear hd hd2 hcb hC hX1 hX0
          go_wp2_with (first | (go_at_call 32; (with_reducible refine (NK.out _ (HB.out.fut)).mono ?_); rintro e w6 ⟨rfl, hs6⟩; clear q0 q1 lq fq; have b5 := HB.out.fut (w' := w6); obtain ⟨q0, q1⟩ := At.z2 b5.at0; have lq := b5.lt; have fq := b5.free; have HB6 := hide b5; clear b5) | (go_at_call 32; (with_reducible refine (NK.out _ (HB.out.fut)).mono ?_); rintro e w7 ⟨rfl, hs7⟩; clear q0 q1 lq fq; have b5 := HB.out.fut (w' := w7); obtain ⟨q0, q1⟩ := At.z2 b5.at0; have lq := b5.lt; have fq := b5.free; have HB7 := hide b5; clear b5) | (go_at_call 23; (with_reducible refine (bad_any _).mono ?_); rintro e w9 ⟨rfl, rfl⟩))
          exact ⟨rfl, by rw [HT.out]; rfl, HM.out.fut⟩
        · have HD2 : Hid (digN s (s.size - (k + 1)) (k + 1) (10 * x + (C - 48)).toNat = digN s (s.size - i1) i1 0) := by
            show _ = _
            rw [← HD.out, dig_more hd (by omega)]
            congr 1
            omega
          have w1 : IntKind.u64.wrap (10 * x) = 10 * x := by rw [IntKind.wrap_u64]; omega
          have w2 : IntKind.u8.wrap (C - 48) = C - 48 := by rw [IntKind.wrap_u8]; omega
          have w3 : IntKind.u64.wrap (C - 48) = C - 48 := by rw [IntKind.wrap_u64]; omega
          have w4 : IntKind.u64.wrap (10 * x + (C - 48)) = 10 * x + (C - 48) := by rw [IntKind.wrap_u64]; omega
          have hnx : 0 ≤ 10 * x + (C - 48) ∧ 10 * x + (C - 48) ≤ 11529215046068469769 := by omega
          have HNX := hide hnx
          rw [hC] at NK
          have NK := hide NK
          obtain ⟨q0, q1⟩ := At.z2 HB.out.at0
          have lq := HB.out.lt
          have fq := HB.out.free
          clear hd hd2 hcb hC hX1 hX0 hnx
          go_wp2_with (first | (go_at_call 32; (with_reducible refine (NK.out _ (HB.out.fut)).mono ?_); rintro e w6 ⟨rfl, hs6⟩; clear q0 q1 lq fq; have b5 := HB.out.fut (w' := w6); obtain ⟨q0, q1⟩ := At.z2 b5.at0; have lq := b5.lt; have fq := b5.free; have HB6 := hide b5; clear b5) | (go_at_call 32; (with_reducible refine (NK.out _ (HB.out.fut)).mono ?_); rintro e w7 ⟨rfl, hs7⟩; clear q0 q1 lq fq; have b5 := HB.out.fut (w' := w7); obtain ⟨q0, q1⟩ := At.z2 b5.at0; have lq := b5.lt; have fq := b5.free; have HB7 := hide b5; clear b5) | (go_at_call 23; (with_reducible refine (bad_any _).mono ?_); rintro e w9 ⟨rfl, rfl⟩))
          go_roundw
          case rel => exact ⟨k + 1, 10 * x + (C - 48), by omega, by omega, rfl, HNX.out.1, HNX.out.2, HD2.out, Pr.put HB6.out (by omega), (HM.out.fut (w'' := w6)).put _⟩
          case measure =>
            have h1 := Pr.pos (Pr.put (j := (k : Int) + 1) (n := k + 1) HB6.out (by omega))
            have h2 := Pr.pos HB.out
            rw [h1, h2]
            omega
      | false =>
        have hd2 : ¬ (48 ≤ bA s k ∧ bA s k ≤ 57) := by simp [isD] at hd; omega
        obtain ⟨C, hC⟩ : ∃ C : Int, (bA s k : Int) = C := ⟨_, rfl⟩
        have hcc : ¬ C ≥ 48 ∨ (C ≥ 48 ∧ ¬ C ≤ 57) := by omega
        rw [hC] at NK
        have NK := hide NK
        have HDE : Hid (numE true i1 (bA s i1) x.toNat k = r) := by
          have h1 := HD.out
          rw [dig_end hd] at h1
          show _ = _
          rw [← HR.out, ← h1]
        clear hd hd2 hcb hC
        rcases hcc with c1 | ⟨c1, c2⟩
        all_goals
          obtain ⟨n, hn⟩ : ∃ n : Nat, n = k - i1 := ⟨_, rfl⟩
          have hsub : (k : Int) - (i1 : Int) = (n : Int) := by omega
          obtain ⟨q0, q1⟩ := At.z2 HB.out.at0
          have lq := HB.out.lt
          have fq := HB.out.free
          by_cases h0 : n = 0
          · have HT : Hid (r = none) := by show _ = _; rw [← HDE.out, numE, if_pos (.inl (by omega))]
            rw [h0] at hsub
            clear hX0 hX1
            go_wp2_with (first | (go_at_call 32; (with_reducible refine (NK.out _ (HB.out.fut)).mono ?_); rintro e w6 ⟨rfl, hs6⟩; clear q0 q1 lq fq; have b5 := HB.out.fut (w' := w6); obtain ⟨q0, q1⟩ := At.z2 b5.at0; have lq := b5.lt; have fq := b5.free; have HB6 := hide b5; clear b5) | (go_at_call 23; (with_reducible refine (bad_any _).mono ?_); rintro e w9 ⟨rfl, rfl⟩))
            exact ⟨rfl, by rw [HT.out]; rfl, HM.out.fut⟩
          have hn0 : ((n : Int) == 0) = false := beq_eq_false_iff_ne.2 (by omega)
          have hi1k : i1 < s.size := by omega
          have hs1 := bA_at hi1k
          have hb1 := s[i1].toNat_lt
          have hi10 : (0 : Int) ≤ (i1 : Int) := by omega
          have hi11 : (i1 : Int) < (s.size : Int) := by omega
          obtain ⟨Z, hZ⟩ : ∃ Z : Int, (s[i1].toNat : Int) = Z := ⟨_, rfl⟩
          by_cases hz : 1 < n ∧ bA s i1 = 48
          · have HT : Hid (r = none) := by show _ = _; rw [← HDE.out, numE, if_pos (.inr (.inl (by omega)))]
            have z1 : (n : Int) > 1 := by omega
            have z2 : Z = 48 := by omega
            subst z2
            clear hX0 hX1
            go_wp2_with (first | (go_at_call 32; (with_reducible refine (NK.out _ (HB.out.fut)).mono ?_); rintro e w6 ⟨rfl, hs6⟩; clear q0 q1 lq fq; have b5 := HB.out.fut (w' := w6); obtain ⟨q0, q1⟩ := At.z2 b5.at0; have lq := b5.lt; have fq := b5.free; have HB6 := hide b5; clear b5) | (go_at_call 23; (with_reducible refine (bad_any _).mono ?_); rintro e w9 ⟨rfl, rfl⟩))
            exact ⟨rfl, by rw [HT.out]; rfl, HM.out.fut⟩
          have hz2 : ¬ (n : Int) > 1 ∨ ((n : Int) > 1 ∧ (Z == 48) = false) := by
            by_cases h1 : 1 < n
            · exact .inr ⟨by omega, beq_eq_false_iff_ne.2 (by omega)⟩
            · exact .inl (by omega)
          by_cases hx0 : x = 0
          · have HT : Hid (r = none) := by show _ = _; rw [← HDE.out, numE, if_pos (.inr (.inr ⟨rfl, by omega⟩))]
            subst hx0
            clear hX0 hX1
            rcases hz2 with z1 | ⟨z1, z2⟩
            all_goals
              go_wp2_with (first | (go_at_call 32; (with_reducible refine (NK.out _ (HB.out.fut)).mono ?_); rintro e w6 ⟨rfl, hs6⟩; clear q0 q1 lq fq; have b5 := HB.out.fut (w' := w6); obtain ⟨q0, q1⟩ := At.z2 b5.at0; have lq := b5.lt; have fq := b5.free; have HB6 := hide b5; clear b5) | (go_at_call 23; (with_reducible refine (bad_any _).mono ?_); rintro e w9 ⟨rfl, rfl⟩))
              exact ⟨rfl, by rw [HT.out]; rfl, HM.out.fut⟩
          have hxb : (x == 0) = false := beq_eq_false_iff_ne.2 hx0
          by_cases hx1 : x ≤ 9223372036854775808
          · have HT : Hid (r = some (-x, k)) := by
              show _ = _
              rw [← HDE.out, numE, if_neg (by omega), if_pos ⟨rfl, by omega⟩]
              rw [Int.toNat_of_nonneg hX0]
            have w1 : wrap64 (IntKind.u64.wrap (-x)) = -x := by rw [IntKind.wrap_u64, wrap64]; omega
            have hv : -9223372036854775808 ≤ -x ∧ -x ≤ 9223372036854775807 := by omega
            have HV := hide hv
            clear hv
            clear hX0 hX1
            rcases hz2 with z1 | ⟨z1, z2⟩
            all_goals
              go_wp2_with (first | (go_at_call 32; (with_reducible refine (NK.out _ (HB.out.fut)).mono ?_); rintro e w6 ⟨rfl, hs6⟩; clear q0 q1 lq fq; have b5 := HB.out.fut (w' := w6); obtain ⟨q0, q1⟩ := At.z2 b5.at0; have lq := b5.lt; have fq := b5.free; have HB6 := hide b5; clear b5) | (go_at_call 23; (with_reducible refine (bad_any _).mono ?_); rintro e w9 ⟨rfl, rfl⟩))
              go_ret
              exact ⟨by rw [HT.out]; exact ⟨by first | rfl | (show Ending.returned (Value.int .i64 (wrap64 (IntKind.u64.wrap (-x)))) = _; rw [w1]), HB.out.fut, hk, HV.out⟩, HM.out.fut⟩
          · have HT : Hid (r = none) := by show _ = _; rw [← HDE.out, numE, if_neg (by omega), if_neg (by omega), if_neg (by omega)]
            have hx2 : ¬ x < 9223372036854775808 := by omega
            clear hX0 hX1
            rcases hz2 with z1 | ⟨z1, z2⟩
            all_goals
              go_wp2_with (first | (go_at_call 32; (with_reducible refine (NK.out _ (HB.out.fut)).mono ?_); rintro e w6 ⟨rfl, hs6⟩; clear q0 q1 lq fq; have b5 := HB.out.fut (w' := w6); obtain ⟨q0, q1⟩ := At.z2 b5.at0; have lq := b5.lt; have fq := b5.free; have HB6 := hide b5; clear b5) | (go_at_call 23; (with_reducible refine (bad_any _).mono ?_); rintro e w9 ⟨rfl, rfl⟩))
              exact ⟨rfl, by rw [HT.out]; rfl, HM.out.fut⟩
  · have HR : Hid ((match digN s (s.size - i) i 0 with | none => none | some (x, i2) => numE false i (bA s i) x i2) = r) := by show _ = _; rw [← hr, numP, if_neg hm]; rfl
    have N0 := NX.out i hi
    have hc := bA_bd s i
    obtain ⟨C, hC⟩ : ∃ C : Int, (bA s i : Int) = C := ⟨_, rfl⟩
    rw [hC] at N0
    have hCb : (C == 45) = false := beq_eq_false_iff_ne.2 (by omega)
    have N0 := hide N0
    clear hr hm hC hc
    go_enter Tryd.func36, Tryd.ntmps36
    go_wp2_with (go_at_call 32; (with_reducible refine (N0.out _ HH.out).mono ?_); rintro e w2 ⟨rfl, hs2⟩; have b2 := HH.out.fut (w' := w2); obtain ⟨q0, q1⟩ := At.z2 b2.at0; have lq := b2.lt; have fq := b2.free; have HB2 := hide b2; clear b2)
    obtain ⟨X, hX⟩ : ∃ x : World, x = w2 := ⟨_, rfl⟩
    have HB : Hid (Pr X g s i) := by rw [hX]; exact HB2.out
    have HM : Hid (Mv g w X) := by rw [hX]; exact Mv.of_step hs2
    rw [← hX]
    clear hX q0 q1 lq fq HB2 hCb
    obtain ⟨i1, hi1⟩ : ∃ i1, i1 = i := ⟨_, rfl⟩
    rw [← hi1] at HB HR
    rw [← hi1]
    have hi1s : i1 ≤ s.size := by omega
    clear hi1
    have hpx := HB.out
    obtain ⟨p0, p1⟩ := At.z2 hpx.at0
    have lp := hpx.lt
    clear hpx
    go_wp2_with fail
    clear p0 p1 lp
    go_loopw [5] (fun t wr => ∃ (k : Nat) (x : Int), i1 ≤ k ∧ k ≤ s.size ∧ t = .int .u64 x ∧ 0 ≤ x ∧ x ≤ 11529215046068469769 ∧ Hid (digN s (s.size - k) k x.toNat = digN s (s.size - i1) i1 0) ∧ Pr wr g s k ∧ Mv g w wr) (fun _ wr => s.size - posOf (wr.cell? ⟨g, 1, none⟩))
    case atStart => exact ⟨i1, 0, Nat.le_refl _, hi1s, rfl, by omega, by omega, rfl, HB.out, HM.out⟩
    case round =>
      clear HB HM
      obtain ⟨k, x, hik, hk, rfl, hX0, hX1, HD, hb, hmv⟩ := hrel
      have HB := hide hb; have HM := hide hmv
      clear hb hmv
      obtain ⟨wo, rfl⟩ : ∃ x : World, x = wr := ⟨_, rfl⟩
      have NK := NX.out k hk
      have hcb := bA_bd s k
      cases hd : isD (bA s k) with
      | true =>
        have hd2 : 48 ≤ bA s k ∧ bA s k ≤ 57 := by simpa [isD] using hd
        have hks := isD_lt hd
        obtain ⟨C, hC⟩ : ∃ C : Int, (bA s k : Int) = C := ⟨_, rfl⟩
        have c1 : C ≥ 48 := by omega
        have c2 : C ≤ 57 := by omega
        by_cases hov : x > 1152921504606846976
        · have HT : Hid (r = none) := by
            show _ = _
            have h1 := HD.out
            rw [dig_over hd (by omega)] at h1
            rw [← HR.out, ← h1]
          rw [hC] at NK
          have NK := hide NK
          obtain ⟨q0, q1⟩ := At.z2 HB.out.at0
          have lq := HB.out.lt
          have fq := HB.out.free
          clear hd hd2 hcb hC hX1 hX0
          go_wp2_with (first | (go_at_call 32; (with_reducible refine (NK.out _ (HB.out.fut)).mono ?_); rintro e w6 ⟨rfl, hs6⟩; clear q0 q1 lq fq; have b5 := HB.out.fut (w' := w6); obtain ⟨q0, q1⟩ := At.z2 b5.at0; have lq := b5.lt; have fq := b5.free; have HB6 := hide b5; clear b5) | (go_at_call 32; (with_reducible refine (NK.out _ (HB.out.fut)).mono ?_); rintro e w7 ⟨rfl, hs7⟩; clear q0 q1 lq fq; have b5 := HB.out.fut (w' := w7); obtain ⟨q0, q1⟩ := At.z2 b5.at0; have lq := b5.lt; have fq := b5.free; have HB7 := hide b5; clear b5) | (go_at_call 23; (with_reducible refine (bad_any _).mono ?_); rintro e w9 ⟨rfl, rfl⟩))
          exact ⟨rfl, by rw [HT.out]; rfl, HM.out.fut⟩
        · have HD2 : Hid (digN s (s.size - (k + 1)) (k + 1) (10 * x + (C - 48)).toNat = digN s (s.size - i1) i1 0) := by
            show _ = _
            rw [← HD.out, dig_more hd (by omega)]
            congr 1
            omega
          have w1 : IntKind.u64.wrap (10 * x) = 10 * x := by rw [IntKind.wrap_u64]; omega
          have w2 : IntKind.u8.wrap (C - 48) = C - 48 := by rw [IntKind.wrap_u8]; omega
          have w3 : IntKind.u64.wrap (C - 48) = C - 48 := by rw [IntKind.wrap_u64]; omega
          have w4 : IntKind.u64.wrap (10 * x + (C - 48)) = 10 * x + (C - 48) := by rw [IntKind.wrap_u64]; omega
          have hnx : 0 ≤ 10 * x + (C - 48) ∧ 10 * x + (C - 48) ≤ 11529215046068469769 := by omega
          have HNX := hide hnx
          rw [hC] at NK
          have NK := hide NK
          obtain ⟨q0, q1⟩ := At.z2 HB.out.at0
          have lq := HB.out.lt
          have fq := HB.out.free
          clear hd hd2 hcb hC hX1 hX0 hnx
          go_wp2_with (first | (go_at_call 32; (with_reducible refine (NK.out _ (HB.out.fut)).mono ?_); rintro e w6 ⟨rfl, hs6⟩; clear q0 q1 lq fq; have b5 := HB.out.fut (w' := w6); obtain ⟨q0, q1⟩ := At.z2 b5.at0; have lq := b5.lt; have fq := b5.free; have HB6 := hide b5; clear b5) | (go_at_call 32; (with_reducible refine (NK.out _ (HB.out.fut)).mono ?_); rintro e w7 ⟨rfl, hs7⟩; clear q0 q1 lq fq; have b5 := HB.out.fut (w' := w7); obtain ⟨q0, q1⟩ := At.z2 b5.at0; have lq := b5.lt; have fq := b5.free; have HB7 := hide b5; clear b5) | (go_at_call 23; (with_reducible refine (bad_any _).mono ?_); rintro e w9 ⟨rfl, rfl⟩))
          go_roundw
          case rel => exact ⟨k + 1, 10 * x + (C - 48), by omega, by omega, rfl, HNX.out.1, HNX.out.2, HD2.out, Pr.put HB6.out (by omega), (HM.out.fut (w'' := w6)).put _⟩
          case measure =>
            have h1 := Pr.pos (Pr.put (j := (k : Int) + 1) (n := k + 1) HB6.out (by omega))
            have h2 := Pr.pos HB.out
            rw [h1, h2]
            omega
      | false =>
        have hd2 : ¬ (48 ≤ bA s k ∧ bA s k ≤ 57) := by simp [isD] at hd; omega
        obtain ⟨C, hC⟩ : ∃ C : Int, (bA s k : Int) = C := ⟨_, rfl⟩
        have hcc : ¬ C ≥ 48 ∨ (C ≥ 48 ∧ ¬ C ≤ 57) := by omega
        rw [hC] at NK
        have NK := hide NK
        have HDE : Hid (numE false i1 (bA s i1) x.toNat k = r) := by
          have h1 := HD.out
          rw [dig_end hd] at h1
          show _ = _
          rw [← HR.out, ← h1]
        clear hd hd2 hcb hC
        rcases hcc with c1 | ⟨c1, c2⟩
        all_goals
          obtain ⟨n, hn⟩ : ∃ n : Nat, n = k - i1 := ⟨_, rfl⟩
          have hsub : (k : Int) - (i1 : Int) = (n : Int) := by omega
          obtain ⟨q0, q1⟩ := At.z2 HB.out.at0
          have lq := HB.out.lt
          have fq := HB.out.free
          by_cases h0 : n = 0
          · have HT : Hid (r = none) := by show _ = _; rw [← HDE.out, numE, if_pos (.inl (by omega))]
            rw [h0] at hsub
            clear hX0 hX1
            go_wp2_with (first | (go_at_call 32; (with_reducible refine (NK.out _ (HB.out.fut)).mono ?_); rintro e w6 ⟨rfl, hs6⟩; clear q0 q1 lq fq; have b5 := HB.out.fut (w' := w6); obtain ⟨q0, q1⟩ := At.z2 b5.at0; have lq := b5.lt; have fq := b5.free; have HB6 := hide b5; clear b5) | (go_at_call 23; (with_reducible refine (bad_any _).mono ?_); rintro e w9 ⟨rfl, rfl⟩))
            exact ⟨rfl, by rw [HT.out]; rfl, HM.out.fut⟩
          have hn0 : ((n : Int) == 0) = false := beq_eq_false_iff_ne.2 (by omega)
          have hi1k : i1 < s.size := by omega
          have hs1 := bA_at hi1k
          have hb1 := s[i1].toNat_lt
          have hi10 : (0 : Int) ≤ (i1 : Int) := by omega
          have hi11 : (i1 : Int) < (s.size : Int) := by omega
          obtain ⟨Z, hZ⟩ : ∃ Z : Int, (s[i1].toNat : Int) = Z := ⟨_, rfl⟩
          by_cases hz : 1 < n ∧ bA s i1 = 48
          · have HT : Hid (r = none) := by show _ = _; rw [← HDE.out, numE, if_pos (.inr (.inl (by omega)))]
            have z1 : (n : Int) > 1 := by omega
            have z2 : Z = 48 := by omega
            subst z2
            clear hX0 hX1
            go_wp2_with (first | (go_at_call 32; (with_reducible refine (NK.out _ (HB.out.fut)).mono ?_); rintro e w6 ⟨rfl, hs6⟩; clear q0 q1 lq fq; have b5 := HB.out.fut (w' := w6); obtain ⟨q0, q1⟩ := At.z2 b5.at0; have lq := b5.lt; have fq := b5.free; have HB6 := hide b5; clear b5) | (go_at_call 23; (with_reducible refine (bad_any _).mono ?_); rintro e w9 ⟨rfl, rfl⟩))
            exact ⟨rfl, by rw [HT.out]; rfl, HM.out.fut⟩
          have hz2 : ¬ (n : Int) > 1 ∨ ((n : Int) > 1 ∧ (Z == 48) = false) := by
            by_cases h1 : 1 < n
            · exact .inr ⟨by omega, beq_eq_false_iff_ne.2 (by omega)⟩
            · exact .inl (by omega)
          by_cases hx1 : x < 9223372036854775808
          · have HT : Hid (r = some (x, k)) := by
              show _ = _
              rw [← HDE.out, numE, if_neg (by simp; omega), if_neg (by simp), if_pos (by omega)]
              rw [Int.toNat_of_nonneg hX0]
            have w1 : wrap64 x = x := by rw [wrap64]; omega
            have hv : -9223372036854775808 ≤ x ∧ x ≤ 9223372036854775807 := by omega
            have HV := hide hv
            clear hv
            clear hX0 hX1
            rcases hz2 with z1 | ⟨z1, z2⟩
            all_goals
              go_wp2_with (first | (go_at_call 32; (with_reducible refine (NK.out _ (HB.out.fut)).mono ?_); rintro e w6 ⟨rfl, hs6⟩; clear q0 q1 lq fq; have b5 := HB.out.fut (w' := w6); obtain ⟨q0, q1⟩ := At.z2 b5.at0; have lq := b5.lt; have fq := b5.free; have HB6 := hide b5; clear b5) | (go_at_call 23; (with_reducible refine (bad_any _).mono ?_); rintro e w9 ⟨rfl, rfl⟩))
              go_ret
              exact ⟨by rw [HT.out]; exact ⟨by first | rfl | (show Ending.returned (Value.int .i64 (wrap64 x)) = _; rw [w1]), HB.out.fut, hk, HV.out⟩, HM.out.fut⟩
          · have HT : Hid (r = none) := by show _ = _; rw [← HDE.out, numE, if_neg (by simp; omega), if_neg (by simp), if_neg (by omega)]
            clear hX0 hX1
            rcases hz2 with z1 | ⟨z1, z2⟩
            all_goals
              go_wp2_with (first | (go_at_call 32; (with_reducible refine (NK.out _ (HB.out.fut)).mono ?_); rintro e w6 ⟨rfl, hs6⟩; clear q0 q1 lq fq; have b5 := HB.out.fut (w' := w6); obtain ⟨q0, q1⟩ := At.z2 b5.at0; have lq := b5.lt; have fq := b5.free; have HB6 := hide b5; clear b5) | (go_at_call 23; (with_reducible refine (bad_any _).mono ?_); rintro e w9 ⟨rfl, rfl⟩))
              exact ⟨rfl, by rw [HT.out]; rfl, HM.out.fut⟩
end Go.Proofs.YtoibfefalflooaaDoor
