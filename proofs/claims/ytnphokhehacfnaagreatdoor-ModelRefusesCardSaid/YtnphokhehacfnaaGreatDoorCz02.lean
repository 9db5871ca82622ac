/-
  Texts put together: Yr, V, Ro, A, Ytm.
-/
import Derived.WalkLawsBesides
import Derived.Deep.QuietTactic
import Derived.BigQuiet
import Derived.Deep.RegionHeld3
import Derived.Deep.RegionLaw
import Derived.Deep.Cut
import Derived.Deep.CutBlock
import Derived.Test.YtnphokhehacfnaaGreatDoorCz00
import Derived.Test.YtnphokhehacfnaaGreatDoorCz01
namespace Go.Proofs.YtnphokhehacfnaaGreatDoor
open Go.RowKit

def formsV : Value := .agg #[.int .i64 0, .int .i64 0, .int .i64 0, .int .i64 128, .int .i64 0, .int .i64 0, .int .i64 224, .int .i64 192, .int .i64 128, .int .i64 240, .int .i64 224, .int .i64 2048, .int .i64 248, .int .i64 240, .int .i64 65536]
theorem forms_any (w : World) : Calls Tryz.prog 201 #[] w fun e w' => e = .returned formsV ∧ Step w w' := by
  go_enter Tryz.func201, Tryz.ntmps201
  go_wp2_with fail
  refine bodyPost_ret (v := formsV) (by simp [formsV, results, Tryz.results201, go_sem]) rfl ⟨rfl, Step.of⟩
theorem umay_any (r : Int) (w : World) : Calls Tryz.prog 202 #[.int .i64 r] w fun e w' => e = .returned (.bool (mayR r)) ∧ Step w w' := by
  have HM : Hid (mayR r = (decide (0 ≤ r) && decide (r ≤ 1114111) && (decide (r < 55296) || decide (57343 < r)))) := hide rfl
  rw [HM.out]
  clear HM
  by_cases h0 : 0 ≤ r <;> by_cases h1 : r ≤ 1114111 <;> by_cases h2 : r < 55296 <;> by_cases h3 : 57343 < r
  all_goals first | (exfalso; omega) | skip
  all_goals
    go_enter Tryz.func202, Tryz.ntmps202
    go_wp2_with fail
    go_ret
    exact ⟨ret_bool (by simp; try omega), Step.of⟩

theorem next_at (s : ByteArray) {m : Nat} (h : m < s.size) : nextB s m = if 128 ≤ s[m].toNat ∧ s[m].toNat ≤ 191 then (s[m].toNat : Int) - 128 else -1 := by rw [nextB, dif_pos h]
theorem or6 {x : Int} {y : Nat} (h0 : 0 ≤ x) (h1 : x < 67108864) (hy : y < 64) : bits .or .i64 (x * 64) (y : Int) = x * 64 + y := by
  obtain ⟨a, rfl⟩ : ∃ a : Nat, x = a := ⟨x.toNat, by omega⟩
  show IntKind.i64.wrap ((BitVec.ofInt 64 ((a : Int) * 64) ||| BitVec.ofInt 64 (y : Int)).toNat : Int) = _
  have e1 : (BitVec.ofInt 64 ((a : Int) * 64)).toNat = a <<< 6 := by rw [BitVec.toNat_ofInt, Nat.shiftLeft_eq]; omega
  have e2 : (BitVec.ofInt 64 (y : Int)).toNat = y := by rw [BitVec.toNat_ofInt]; omega
  rw [BitVec.toNat_or, e1, e2, ← Nat.shiftLeft_add_eq_or_of_lt (by simpa using hy), Nat.shiftLeft_eq, IntKind.wrap_i64]
  omega
set_option maxRecDepth 100000 in
set_option maxHeartbeats 4000000 in
theorem urune_any (s : ByteArray) (at_ : Int) (w : World) (hs : s.size ≤ 9223372036854775807) :
    Calls Tryz.prog 194 #[.string s, .int .i64 at_] w fun e w' => e = .returned (.tuple #[.int .i64 (runeR s at_).1, .int .i64 (runeR s at_).2]) ∧ Step w w' := by
  by_cases h0 : at_ < 0
  · have HR : Hid (runeR s at_ = (0, 0)) := by show _ = _; rw [runeR, if_pos h0]
    rw [HR.out]
    go_enter Tryz.func194, Tryz.ntmps194
    go_wp2_with fail
    go_ret2
    exact ⟨rfl, Step.of⟩
  by_cases h1 : s.size ≤ at_
  · have HR : Hid (runeR s at_ = (0, 0)) := by show _ = _; rw [runeR, if_neg h0, runeT, dif_neg (by omega)]
    rw [HR.out]
    go_enter Tryz.func194, Tryz.ntmps194
    go_wp2_with fail
    go_ret2
    exact ⟨rfl, Step.of⟩
  obtain ⟨i, rfl⟩ : ∃ i : Nat, at_ = (i : Int) := ⟨at_.toNat, by omega⟩
  have hi : i < s.size := by omega
  have HRR : Hid (runeR s (i : Int) = runeT s i) := by show _ = _; rw [runeR, if_neg h0]; rfl
  rw [HRR.out]
  clear h0 h1 HRR
  obtain ⟨T, hT⟩ : ∃ T, runeT s i = T := ⟨_, rfl⟩
  have HT := hide hT
  rw [hT]
  clear hT
  have i0 : ∀ (w : World), (Instr.index 222 formsV (.int .i64 0)).run Tryz.prog w = .ok (.agg #[.int .i64 0, .int .i64 0, .int .i64 0]) w := fun _ => by kernel_rfl
  have i1 : ∀ (w : World), (Instr.index 222 formsV (.int .i64 1)).run Tryz.prog w = .ok (.agg #[.int .i64 128, .int .i64 0, .int .i64 0]) w := fun _ => by kernel_rfl
  have i2 : ∀ (w : World), (Instr.index 222 formsV (.int .i64 2)).run Tryz.prog w = .ok (.agg #[.int .i64 224, .int .i64 192, .int .i64 128]) w := fun _ => by kernel_rfl
  have i3 : ∀ (w : World), (Instr.index 222 formsV (.int .i64 3)).run Tryz.prog w = .ok (.agg #[.int .i64 240, .int .i64 224, .int .i64 2048]) w := fun _ => by kernel_rfl
  have i4 : ∀ (w : World), (Instr.index 222 formsV (.int .i64 4)).run Tryz.prog w = .ok (.agg #[.int .i64 248, .int .i64 240, .int .i64 65536]) w := fun _ => by kernel_rfl
  have FM := hide forms_any
  go_enter Tryz.func194, Tryz.ntmps194
  go_wp2_with (refine (FM.out _).mono ?_; rintro e w1 ⟨rfl, hs1⟩)
  have hi0 : (0 : Int) ≤ (i : Int) := by omega
  have hi1 : (i : Int) < (s.size : Int) := by omega
  have hc := s[i].toNat_lt
  obtain ⟨FT, hFT⟩ : ∃ FT, formT s[i].toNat = FT := ⟨_, rfl⟩
  have HFT := hide hFT
  have hle := form_le s[i].toNat
  rw [hFT] at hle
  clear hFT
  go_loopw [6, 7, 8, 9, 19] (fun _ _ _ _ k wr => ∃ n : Nat, n ≤ 5 ∧ n ≤ FT ∧ k = .int .i64 n ∧ Step w wr) (fun _ _ _ _ k _ => 5 - (intOf k).toNat)
  case atStart => exact ⟨0, by omega, by omega, rfl, Step.of⟩
  case round =>
    obtain ⟨n, hn, hnf, rfl, hst⟩ := hrel
    obtain ⟨wo, rfl⟩ : ∃ x : World, x = wr := ⟨_, rfl⟩
    rcases Nat.lt_or_ge n 5 with h5 | h5
    · match n, h5 with
      | 0, _ =>
        have f0 : FT ≠ 0 := by omega
        go_wp2_with fail
        go_quiet (fail)
        go_wp2_with fail
        go_roundw
        case rel => exact ⟨1, by omega, by omega, rfl, Step.of⟩
        case measure => simp [intOf]
      | 1, _ =>
        have FTEST := form_test s[i] (k := 1) (by omega)
        rw [HFT.out] at FTEST
        rcases Nat.lt_or_ge 1 FT with hlt | hge
        · have t1 : (bits .and .i64 (s[i].toNat : Int) 128 != 0) = true := by
            have : (bits .and .i64 (s[i].toNat : Int) 128 == 0) = false := by
              refine (show (bits .and .i64 (s[i].toNat : Int) (maskT 1) == headT 1) = false from ?_)
              rw [FTEST]; simp; omega
            simp only [bne, this, Bool.not_false]
          clear FTEST
          go_wp2_with fail
          go_quiet (fail)
          go_wp2_with fail
          go_roundw
          case rel => exact ⟨1 + 1, by omega, by omega, rfl, Step.of⟩
          case measure => simp [intOf]
        · obtain rfl : FT = 1 := by omega
          have t1 : (bits .and .i64 (s[i].toNat : Int) 128 != 0) = false := by
            have : (bits .and .i64 (s[i].toNat : Int) 128 == 0) = true := by
              refine (show (bits .and .i64 (s[i].toNat : Int) (maskT 1) == headT 1) = true from ?_)
              rw [FTEST]; simp
            simp only [bne, this, Bool.not_true]
          clear FTEST
          have HTE := hide (rune_end hi (n := 1) (by omega) HFT.out)
          rcases Nat.lt_or_ge s.size (i + 1) with hsh | hsh
          · exfalso; omega
          have hq : decide ((s.size : Int) - (i : Int) < 1) = false := by simp; omega
          obtain ⟨c0, hc0⟩ : ∃ c0, bits .andNot .i64 (s[i].toNat : Int) 128 = c0 := ⟨_, rfl⟩
          have HC0 : Hid (c0 = (s[i].toNat : Int) - 0) := by show _ = _; rw [← hc0]; exact form_rest s[i] (k := 1) (by omega) HFT.out
          go_wp2_with fail
          go_quiet (fail)
          go_wp2_with fail
          go_quiet (fail)
          go_wp2_with fail
          clear t1 hc0 hq
          go_loop [8, 9] (fun r k => ∃ (m : Nat) (x : Int), i + 1 ≤ m ∧ m ≤ i + 1 ∧ k = .int .i64 m ∧ r = .int .i64 x ∧ Hid (x = accT s i c0 (m - (i + 1))) ∧ Hid (∀ q, q < m - (i + 1) → 0 ≤ nextB s (i + 1 + q))) (fun _ k => s.size - (intOf k).toNat)
          case atStart => exact ⟨i + 1, c0, by omega, by omega, by go_num, rfl, by show _ = _; simp [accT], by intro q hq; omega⟩
          case round =>
            obtain ⟨m, x, hm1, hm2, rfl, rfl, HX, HG⟩ := hrel
            have hx : 0 ≤ x ∧ x < 67108864 := by rw [HX.out]; exact accT_3 (by rw [HC0.out]; have := form_1 HFT.out; omega) (by rw [HC0.out]; omega) (by omega) HG.out
            obtain ⟨hx0, hx1⟩ := hx
            rcases Nat.lt_or_ge m (i + 1) with hlt | hge
            · have hms : m < s.size := by omega
              have hml : (m : Int) < (i : Int) + 1 := by omega
              have HNX := hide (next_at s hms)
              by_cases hon : 128 ≤ s[m].toNat ∧ s[m].toNat ≤ 191
              · have hon1 : (bits .and .u8 (s[m].toNat : Int) 192 != 128) = false := by
                  have := (on_test s[m]).1
                  simp only [bne, this]; simp; omega
                have hon2 : bits .and .u8 (s[m].toNat : Int) 63 = ((s[m].toNat % 64 : Nat) : Int) := (on_test s[m]).2
                obtain ⟨y, hy⟩ : ∃ y : Nat, s[m].toNat % 64 = y := ⟨_, rfl⟩
                have hy1 : y < 64 := by omega
                rw [hy] at hon2
                have hor : bits .or .i64 (x * 64) (y : Int) = x * 64 + y := or6 hx0 hx1 hy1
                have HY : Hid (nextB s m = y) := by show _ = _; rw [HNX.out, if_pos hon]; omega
                clear hon hy
                go_wp2_with fail
                go_round
                case rel =>
                  refine ⟨m + 1, x * 64 + y, by omega, by omega, by go_num, rfl, ?_, ?_⟩
                  · show _ = _
                    have e : m + 1 - (i + 1) = (m - (i + 1)) + 1 := by omega
                    rw [e, accT, ← HX.out, show i + 1 + (m - (i + 1)) = m by omega, HY.out]
                  · intro q hq
                    rcases Nat.lt_or_ge q (m - (i + 1)) with h | h
                    · exact HG.out q h
                    · obtain rfl : q = m - (i + 1) := by omega
                      rw [show i + 1 + (m - (i + 1)) = m by omega, HY.out]
                      omega
                case measure => simp [intOf]; omega
              · have hon1 : (bits .and .u8 (s[m].toNat : Int) 192 != 128) = true := by
                  have := (on_test s[m]).1
                  simp only [bne, this]; simp; omega
                have hE : Hid (T = (0, 0)) := by
                  show _ = _
                  rw [← HT.out]
                  refine rune_cut hi (n := 1) (j := m - (i + 1)) (by omega) HFT.out (by omega) ?_
                  rw [show i + 1 + (m - (i + 1)) = m by omega, HNX.out, if_neg hon]
                  omega
                clear hon
                go_wp2_with fail
                go_ret2
                exact ⟨by rw [hE.out]; rfl, Step.of⟩
            · obtain rfl : m = i + 1 := by omega
              have HE : Hid (T = endR x 1) := by
                show _ = _
                rw [← HT.out, HTE.out (fun j hj => HG.out j (by omega)), HX.out, HC0.out, show i + 1 - (i + 1) = 1 - 1 by omega]
                rfl
              clear HG HX HTE
              by_cases hl : x < 0
              · exfalso; omega
              · have hl2 : decide (x < 0) = false := by simp; omega
                have MY := hide (umay_any x)
                cases hmy : mayR x with
                | true =>
                  have hE : Hid (T = (x, 1)) := by show _ = _; rw [HE.out, endR, show leastT 1 = 0 from rfl, if_neg hl, hmy]; rfl
                  rw [hmy] at MY
                  clear hmy hl
                  go_wp2_with (refine (MY.out _).mono ?_; rintro e w3 ⟨rfl, hs3⟩)
                  go_ret2
                  exact ⟨by rw [hE.out]; rfl, Step.of⟩
                | false =>
                  have hE : Hid (T = (0, 0)) := by show _ = _; rw [HE.out, endR, show leastT 1 = 0 from rfl, if_neg hl, hmy]; rfl
                  rw [hmy] at MY
                  clear hmy hl
                  go_wp2_with (refine (MY.out _).mono ?_; rintro e w3 ⟨rfl, hs3⟩)
                  go_ret2
                  exact ⟨by rw [hE.out]; rfl, Step.of⟩
      | 2, _ =>
        have FTEST := form_test s[i] (k := 2) (by omega)
        rw [HFT.out] at FTEST
        rcases Nat.lt_or_ge 2 FT with hlt | hge
        · have t1 : (bits .and .i64 (s[i].toNat : Int) 224 != 192) = true := by
            have : (bits .and .i64 (s[i].toNat : Int) 224 == 192) = false := by
              refine (show (bits .and .i64 (s[i].toNat : Int) (maskT 2) == headT 2) = false from ?_)
              rw [FTEST]; simp; omega
            simp only [bne, this, Bool.not_false]
          clear FTEST
          go_wp2_with fail
          go_quiet (fail)
          go_wp2_with fail
          go_roundw
          case rel => exact ⟨2 + 1, by omega, by omega, rfl, Step.of⟩
          case measure => simp [intOf]
        · obtain rfl : FT = 2 := by omega
          have t1 : (bits .and .i64 (s[i].toNat : Int) 224 != 192) = false := by
            have : (bits .and .i64 (s[i].toNat : Int) 224 == 192) = true := by
              refine (show (bits .and .i64 (s[i].toNat : Int) (maskT 2) == headT 2) = true from ?_)
              rw [FTEST]; simp
            simp only [bne, this, Bool.not_true]
          clear FTEST
          have HTE := hide (rune_end hi (n := 2) (by omega) HFT.out)
          rcases Nat.lt_or_ge s.size (i + 2) with hsh | hsh
          · have hq : decide ((s.size : Int) - (i : Int) < 2) = true := by simp; omega
            have hE : Hid (T = (0, 0)) := by show _ = _; rw [← HT.out]; exact rune_short hi (n := 2) (by omega) HFT.out hsh
            go_wp2_with fail
            go_quiet (fail)
            go_wp2_with fail
            go_ret2
            exact ⟨by rw [hE.out]; rfl, Step.of⟩
          have hq : decide ((s.size : Int) - (i : Int) < 2) = false := by simp; omega
          obtain ⟨c0, hc0⟩ : ∃ c0, bits .andNot .i64 (s[i].toNat : Int) 224 = c0 := ⟨_, rfl⟩
          have HC0 : Hid (c0 = (s[i].toNat : Int) - 192) := by show _ = _; rw [← hc0]; exact form_rest s[i] (k := 2) (by omega) HFT.out
          go_wp2_with fail
          go_quiet (fail)
          go_wp2_with fail
          go_quiet (fail)
          go_wp2_with fail
          clear t1 hc0 hq
          go_loop [8, 9] (fun r k => ∃ (m : Nat) (x : Int), i + 1 ≤ m ∧ m ≤ i + 2 ∧ k = .int .i64 m ∧ r = .int .i64 x ∧ Hid (x = accT s i c0 (m - (i + 1))) ∧ Hid (∀ q, q < m - (i + 1) → 0 ≤ nextB s (i + 1 + q))) (fun _ k => s.size - (intOf k).toNat)
          case atStart => exact ⟨i + 1, c0, by omega, by omega, by go_num, rfl, by show _ = _; simp [accT], by intro q hq; omega⟩
          case round =>
            obtain ⟨m, x, hm1, hm2, rfl, rfl, HX, HG⟩ := hrel
            have hx : 0 ≤ x ∧ x < 67108864 := by rw [HX.out]; exact accT_3 (by rw [HC0.out]; have := form_2 HFT.out; omega) (by rw [HC0.out]; omega) (by omega) HG.out
            obtain ⟨hx0, hx1⟩ := hx
            rcases Nat.lt_or_ge m (i + 2) with hlt | hge
            · have hms : m < s.size := by omega
              have hml : (m : Int) < (i : Int) + 2 := by omega
              have HNX := hide (next_at s hms)
              by_cases hon : 128 ≤ s[m].toNat ∧ s[m].toNat ≤ 191
              · have hon1 : (bits .and .u8 (s[m].toNat : Int) 192 != 128) = false := by
                  have := (on_test s[m]).1
                  simp only [bne, this]; simp; omega
                have hon2 : bits .and .u8 (s[m].toNat : Int) 63 = ((s[m].toNat % 64 : Nat) : Int) := (on_test s[m]).2
                obtain ⟨y, hy⟩ : ∃ y : Nat, s[m].toNat % 64 = y := ⟨_, rfl⟩
                have hy1 : y < 64 := by omega
                rw [hy] at hon2
                have hor : bits .or .i64 (x * 64) (y : Int) = x * 64 + y := or6 hx0 hx1 hy1
                have HY : Hid (nextB s m = y) := by show _ = _; rw [HNX.out, if_pos hon]; omega
                clear hon hy
                go_wp2_with fail
                go_round
                case rel =>
                  refine ⟨m + 1, x * 64 + y, by omega, by omega, by go_num, rfl, ?_, ?_⟩
                  · show _ = _
                    have e : m + 1 - (i + 1) = (m - (i + 1)) + 1 := by omega
                    rw [e, accT, ← HX.out, show i + 1 + (m - (i + 1)) = m by omega, HY.out]
                  · intro q hq
                    rcases Nat.lt_or_ge q (m - (i + 1)) with h | h
                    · exact HG.out q h
                    · obtain rfl : q = m - (i + 1) := by omega
                      rw [show i + 1 + (m - (i + 1)) = m by omega, HY.out]
                      omega
                case measure => simp [intOf]; omega
              · have hon1 : (bits .and .u8 (s[m].toNat : Int) 192 != 128) = true := by
                  have := (on_test s[m]).1
                  simp only [bne, this]; simp; omega
                have hE : Hid (T = (0, 0)) := by
                  show _ = _
                  rw [← HT.out]
                  refine rune_cut hi (n := 2) (j := m - (i + 1)) (by omega) HFT.out (by omega) ?_
                  rw [show i + 1 + (m - (i + 1)) = m by omega, HNX.out, if_neg hon]
                  omega
                clear hon
                go_wp2_with fail
                go_ret2
                exact ⟨by rw [hE.out]; rfl, Step.of⟩
            · obtain rfl : m = i + 2 := by omega
              have HE : Hid (T = endR x 2) := by
                show _ = _
                rw [← HT.out, HTE.out (fun j hj => HG.out j (by omega)), HX.out, HC0.out, show i + 2 - (i + 1) = 2 - 1 by omega]
                rfl
              clear HG HX HTE
              by_cases hl : x < 128
              · have hE : Hid (T = (0, 0)) := by show _ = _; rw [HE.out, endR, show leastT 2 = 128 from rfl, if_pos hl]
                go_wp2_with fail
                go_ret2
                exact ⟨by rw [hE.out]; rfl, Step.of⟩
              · have hl2 : decide (x < 128) = false := by simp; omega
                have MY := hide (umay_any x)
                cases hmy : mayR x with
                | true =>
                  have hE : Hid (T = (x, 2)) := by show _ = _; rw [HE.out, endR, show leastT 2 = 128 from rfl, if_neg hl, hmy]; rfl
                  rw [hmy] at MY
                  clear hmy hl
                  go_wp2_with (refine (MY.out _).mono ?_; rintro e w3 ⟨rfl, hs3⟩)
                  go_ret2
                  exact ⟨by rw [hE.out]; rfl, Step.of⟩
                | false =>
                  have hE : Hid (T = (0, 0)) := by show _ = _; rw [HE.out, endR, show leastT 2 = 128 from rfl, if_neg hl, hmy]; rfl
                  rw [hmy] at MY
                  clear hmy hl
                  go_wp2_with (refine (MY.out _).mono ?_; rintro e w3 ⟨rfl, hs3⟩)
                  go_ret2
                  exact ⟨by rw [hE.out]; rfl, Step.of⟩
      | 3, _ =>
        have FTEST := form_test s[i] (k := 3) (by omega)
        rw [HFT.out] at FTEST
        rcases Nat.lt_or_ge 3 FT with hlt | hge
        · have t1 : (bits .and .i64 (s[i].toNat : Int) 240 != 224) = true := by
            have : (bits .and .i64 (s[i].toNat : Int) 240 == 224) = false := by
              refine (show (bits .and .i64 (s[i].toNat : Int) (maskT 3) == headT 3) = false from ?_)
              rw [FTEST]; simp; omega
            simp only [bne, this, Bool.not_false]
          clear FTEST
          go_wp2_with fail
          go_quiet (fail)
          go_wp2_with fail
          go_roundw
          case rel => exact ⟨3 + 1, by omega, by omega, rfl, Step.of⟩
          case measure => simp [intOf]
        · obtain rfl : FT = 3 := by omega
          have t1 : (bits .and .i64 (s[i].toNat : Int) 240 != 224) = false := by
            have : (bits .and .i64 (s[i].toNat : Int) 240 == 224) = true := by
              refine (show (bits .and .i64 (s[i].toNat : Int) (maskT 3) == headT 3) = true from ?_)
              rw [FTEST]; simp
            simp only [bne, this, Bool.not_true]
          clear FTEST
          have HTE := hide (rune_end hi (n := 3) (by omega) HFT.out)
          rcases Nat.lt_or_ge s.size (i + 3) with hsh | hsh
          · have hq : decide ((s.size : Int) - (i : Int) < 3) = true := by simp; omega
            have hE : Hid (T = (0, 0)) := by show _ = _; rw [← HT.out]; exact rune_short hi (n := 3) (by omega) HFT.out hsh
            go_wp2_with fail
            go_quiet (fail)
            go_wp2_with fail
            go_ret2
            exact ⟨by rw [hE.out]; rfl, Step.of⟩
          have hq : decide ((s.size : Int) - (i : Int) < 3) = false := by simp; omega
          obtain ⟨c0, hc0⟩ : ∃ c0, bits .andNot .i64 (s[i].toNat : Int) 240 = c0 := ⟨_, rfl⟩
          have HC0 : Hid (c0 = (s[i].toNat : Int) - 224) := by show _ = _; rw [← hc0]; exact form_rest s[i] (k := 3) (by omega) HFT.out
          go_wp2_with fail
          go_quiet (fail)
          go_wp2_with fail
          go_quiet (fail)
          go_wp2_with fail
          clear t1 hc0 hq
          go_loop [8, 9] (fun r k => ∃ (m : Nat) (x : Int), i + 1 ≤ m ∧ m ≤ i + 3 ∧ k = .int .i64 m ∧ r = .int .i64 x ∧ Hid (x = accT s i c0 (m - (i + 1))) ∧ Hid (∀ q, q < m - (i + 1) → 0 ≤ nextB s (i + 1 + q))) (fun _ k => s.size - (intOf k).toNat)
          case atStart => exact ⟨i + 1, c0, by omega, by omega, by go_num, rfl, by show _ = _; simp [accT], by intro q hq; omega⟩
          case round =>
            obtain ⟨m, x, hm1, hm2, rfl, rfl, HX, HG⟩ := hrel
            have hx : 0 ≤ x ∧ x < 67108864 := by rw [HX.out]; exact accT_3 (by rw [HC0.out]; have := form_3 HFT.out; omega) (by rw [HC0.out]; omega) (by omega) HG.out
            obtain ⟨hx0, hx1⟩ := hx
            rcases Nat.lt_or_ge m (i + 3) with hlt | hge
            · have hms : m < s.size := by omega
              have hml : (m : Int) < (i : Int) + 3 := by omega
              have HNX := hide (next_at s hms)
              by_cases hon : 128 ≤ s[m].toNat ∧ s[m].toNat ≤ 191
              · have hon1 : (bits .and .u8 (s[m].toNat : Int) 192 != 128) = false := by
                  have := (on_test s[m]).1
                  simp only [bne, this]; simp; omega
                have hon2 : bits .and .u8 (s[m].toNat : Int) 63 = ((s[m].toNat % 64 : Nat) : Int) := (on_test s[m]).2
                obtain ⟨y, hy⟩ : ∃ y : Nat, s[m].toNat % 64 = y := ⟨_, rfl⟩
                have hy1 : y < 64 := by omega
                rw [hy] at hon2
                have hor : bits .or .i64 (x * 64) (y : Int) = x * 64 + y := or6 hx0 hx1 hy1
                have HY : Hid (nextB s m = y) := by show _ = _; rw [HNX.out, if_pos hon]; omega
                clear hon hy
                go_wp2_with fail
                go_round
                case rel =>
                  refine ⟨m + 1, x * 64 + y, by omega, by omega, by go_num, rfl, ?_, ?_⟩
                  · show _ = _
                    have e : m + 1 - (i + 1) = (m - (i + 1)) + 1 := by omega
                    rw [e, accT, ← HX.out, show i + 1 + (m - (i + 1)) = m by omega, HY.out]
                  · intro q hq
                    rcases Nat.lt_or_ge q (m - (i + 1)) with h | h
                    · exact HG.out q h
                    · obtain rfl : q = m - (i + 1) := by omega
                      rw [show i + 1 + (m - (i + 1)) = m by omega, HY.out]
                      omega
                case measure => simp [intOf]; omega
              · have hon1 : (bits .and .u8 (s[m].toNat : Int) 192 != 128) = true := by
                  have := (on_test s[m]).1
                  simp only [bne, this]; simp; omega
                have hE : Hid (T = (0, 0)) := by
                  show _ = _
                  rw [← HT.out]
                  refine rune_cut hi (n := 3) (j := m - (i + 1)) (by omega) HFT.out (by omega) ?_
                  rw [show i + 1 + (m - (i + 1)) = m by omega, HNX.out, if_neg hon]
                  omega
                clear hon
                go_wp2_with fail
                go_ret2
                exact ⟨by rw [hE.out]; rfl, Step.of⟩
            · obtain rfl : m = i + 3 := by omega
              have HE : Hid (T = endR x 3) := by
                show _ = _
                rw [← HT.out, HTE.out (fun j hj => HG.out j (by omega)), HX.out, HC0.out, show i + 3 - (i + 1) = 3 - 1 by omega]
                rfl
              clear HG HX HTE
              by_cases hl : x < 2048
              · have hE : Hid (T = (0, 0)) := by show _ = _; rw [HE.out, endR, show leastT 3 = 2048 from rfl, if_pos hl]
                go_wp2_with fail
                go_ret2
                exact ⟨by rw [hE.out]; rfl, Step.of⟩
              · have hl2 : decide (x < 2048) = false := by simp; omega
                have MY := hide (umay_any x)
                cases hmy : mayR x with
                | true =>
                  have hE : Hid (T = (x, 3)) := by show _ = _; rw [HE.out, endR, show leastT 3 = 2048 from rfl, if_neg hl, hmy]; rfl
                  rw [hmy] at MY
                  clear hmy hl
                  go_wp2_with (refine (MY.out _).mono ?_; rintro e w3 ⟨rfl, hs3⟩)
                  go_ret2
                  exact ⟨by rw [hE.out]; rfl, Step.of⟩
                | false =>
                  have hE : Hid (T = (0, 0)) := by show _ = _; rw [HE.out, endR, show leastT 3 = 2048 from rfl, if_neg hl, hmy]; rfl
                  rw [hmy] at MY
                  clear hmy hl
                  go_wp2_with (refine (MY.out _).mono ?_; rintro e w3 ⟨rfl, hs3⟩)
                  go_ret2
                  exact ⟨by rw [hE.out]; rfl, Step.of⟩
      | 4, _ =>
        have FTEST := form_test s[i] (k := 4) (by omega)
        rw [HFT.out] at FTEST
        rcases Nat.lt_or_ge 4 FT with hlt | hge
        · have t1 : (bits .and .i64 (s[i].toNat : Int) 248 != 240) = true := by
            have : (bits .and .i64 (s[i].toNat : Int) 248 == 240) = false := by
              refine (show (bits .and .i64 (s[i].toNat : Int) (maskT 4) == headT 4) = false from ?_)
              rw [FTEST]; simp; omega
            simp only [bne, this, Bool.not_false]
          clear FTEST
          go_wp2_with fail
          go_quiet (fail)
          go_wp2_with fail
          go_roundw
          case rel => exact ⟨4 + 1, by omega, by omega, rfl, Step.of⟩
          case measure => simp [intOf]
        · obtain rfl : FT = 4 := by omega
          have t1 : (bits .and .i64 (s[i].toNat : Int) 248 != 240) = false := by
            have : (bits .and .i64 (s[i].toNat : Int) 248 == 240) = true := by
              refine (show (bits .and .i64 (s[i].toNat : Int) (maskT 4) == headT 4) = true from ?_)
              rw [FTEST]; simp
            simp only [bne, this, Bool.not_true]
          clear FTEST
          have HTE := hide (rune_end hi (n := 4) (by omega) HFT.out)
          rcases Nat.lt_or_ge s.size (i + 4) with hsh | hsh
          · have hq : decide ((s.size : Int) - (i : Int) < 4) = true := by simp; omega
            have hE : Hid (T = (0, 0)) := by show _ = _; rw [← HT.out]; exact rune_short hi (n := 4) (by omega) HFT.out hsh
            go_wp2_with fail
            go_quiet (fail)
            go_wp2_with fail
            go_ret2
            exact ⟨by rw [hE.out]; rfl, Step.of⟩
          have hq : decide ((s.size : Int) - (i : Int) < 4) = false := by simp; omega
          obtain ⟨c0, hc0⟩ : ∃ c0, bits .andNot .i64 (s[i].toNat : Int) 248 = c0 := ⟨_, rfl⟩
          have HC0 : Hid (c0 = (s[i].toNat : Int) - 240) := by show _ = _; rw [← hc0]; exact form_rest s[i] (k := 4) (by omega) HFT.out
          go_wp2_with fail
          go_quiet (fail)
          go_wp2_with fail
          go_quiet (fail)
          go_wp2_with fail
          clear t1 hc0 hq
          go_loop [8, 9] (fun r k => ∃ (m : Nat) (x : Int), i + 1 ≤ m ∧ m ≤ i + 4 ∧ k = .int .i64 m ∧ r = .int .i64 x ∧ Hid (x = accT s i c0 (m - (i + 1))) ∧ Hid (∀ q, q < m - (i + 1) → 0 ≤ nextB s (i + 1 + q))) (fun _ k => s.size - (intOf k).toNat)
          case atStart => exact ⟨i + 1, c0, by omega, by omega, by go_num, rfl, by show _ = _; simp [accT], by intro q hq; omega⟩
          case round =>
            obtain ⟨m, x, hm1, hm2, rfl, rfl, HX, HG⟩ := hrel
            have hx : 0 ≤ x ∧ x < 67108864 := by rw [HX.out]; exact accT_3 (by rw [HC0.out]; have := form_4 HFT.out; omega) (by rw [HC0.out]; omega) (by omega) HG.out
            obtain ⟨hx0, hx1⟩ := hx
            rcases Nat.lt_or_ge m (i + 4) with hlt | hge
            · have hms : m < s.size := by omega
              have hml : (m : Int) < (i : Int) + 4 := by omega
              have HNX := hide (next_at s hms)
              by_cases hon : 128 ≤ s[m].toNat ∧ s[m].toNat ≤ 191
              · have hon1 : (bits .and .u8 (s[m].toNat : Int) 192 != 128) = false := by
                  have := (on_test s[m]).1
                  simp only [bne, this]; simp; omega
                have hon2 : bits .and .u8 (s[m].toNat : Int) 63 = ((s[m].toNat % 64 : Nat) : Int) := (on_test s[m]).2
                obtain ⟨y, hy⟩ : ∃ y : Nat, s[m].toNat % 64 = y := ⟨_, rfl⟩
                have hy1 : y < 64 := by omega
                rw [hy] at hon2
                have hor : bits .or .i64 (x * 64) (y : Int) = x * 64 + y := or6 hx0 hx1 hy1
                have HY : Hid (nextB s m = y) := by show _ = _; rw [HNX.out, if_pos hon]; omega
                clear hon hy
                go_wp2_with fail
                go_round
                case rel =>
                  refine ⟨m + 1, x * 64 + y, by omega, by omega, by go_num, rfl, ?_, ?_⟩
                  · show _ = _
                    have e : m + 1 - (i + 1) = (m - (i + 1)) + 1 := by omega
                    rw [e, accT, ← HX.out, show i + 1 + (m - (i + 1)) = m by omega, HY.out]
                  · intro q hq
                    rcases Nat.lt_or_ge q (m - (i + 1)) with h | h
                    · exact HG.out q h
                    · obtain rfl : q = m - (i + 1) := by omega
                      rw [show i + 1 + (m - (i + 1)) = m by omega, HY.out]
                      omega
                case measure => simp [intOf]; omega
              · have hon1 : (bits .and .u8 (s[m].toNat : Int) 192 != 128) = true := by
                  have := (on_test s[m]).1
                  simp only [bne, this]; simp; omega
                have hE : Hid (T = (0, 0)) := by
                  show _ = _
                  rw [← HT.out]
                  refine rune_cut hi (n := 4) (j := m - (i + 1)) (by omega) HFT.out (by omega) ?_
                  rw [show i + 1 + (m - (i + 1)) = m by omega, HNX.out, if_neg hon]
                  omega
                clear hon
                go_wp2_with fail
                go_ret2
                exact ⟨by rw [hE.out]; rfl, Step.of⟩
            · obtain rfl : m = i + 4 := by omega
              have HE : Hid (T = endR x 4) := by
                show _ = _
                rw [← HT.out, HTE.out (fun j hj => HG.out j (by omega)), HX.out, HC0.out, show i + 4 - (i + 1) = 4 - 1 by omega]
                rfl
              clear HG HX HTE
              by_cases hl : x < 65536
              · have hE : Hid (T = (0, 0)) := by show _ = _; rw [HE.out, endR, show leastT 4 = 65536 from rfl, if_pos hl]
                go_wp2_with fail
                go_ret2
                exact ⟨by rw [hE.out]; rfl, Step.of⟩
              · have hl2 : decide (x < 65536) = false := by simp; omega
                have MY := hide (umay_any x)
                cases hmy : mayR x with
                | true =>
                  have hE : Hid (T = (x, 4)) := by show _ = _; rw [HE.out, endR, show leastT 4 = 65536 from rfl, if_neg hl, hmy]; rfl
                  rw [hmy] at MY
                  clear hmy hl
                  go_wp2_with (refine (MY.out _).mono ?_; rintro e w3 ⟨rfl, hs3⟩)
                  go_ret2
                  exact ⟨by rw [hE.out]; rfl, Step.of⟩
                | false =>
                  have hE : Hid (T = (0, 0)) := by show _ = _; rw [HE.out, endR, show leastT 4 = 65536 from rfl, if_neg hl, hmy]; rfl
                  rw [hmy] at MY
                  clear hmy hl
                  go_wp2_with (refine (MY.out _).mono ?_; rintro e w3 ⟨rfl, hs3⟩)
                  go_ret2
                  exact ⟨by rw [hE.out]; rfl, Step.of⟩
    · obtain rfl : n = 5 := by omega
      have hE : Hid (T = (0, 0)) := by show _ = _; rw [← HT.out]; exact rune_none hi (by rw [HFT.out]; omega)
      go_wp2_with fail
      go_ret2
      exact ⟨by rw [hE.out]; rfl, Step.of⟩
theorem firstN_step {f : Nat} {s : ByteArray} {i : Nat} (hi : i < s.size) (h : (runeT s i).2 ≠ 0) : firstN (f + 1) s i = firstN f s (i + (runeT s i).2.toNat) := by rw [firstN, if_pos hi, if_neg h]
theorem firstN_stop {f : Nat} {s : ByteArray} {i : Nat} (hi : i < s.size) (h : (runeT s i).2 = 0) : firstN (f + 1) s i = i := by rw [firstN, if_pos hi, if_pos h]
theorem firstN_end {f : Nat} {s : ByteArray} {i : Nat} (hi : s.size ≤ i) : firstN f s i = -1 := by
  cases f with
  | zero => rfl
  | succ f => rw [firstN, if_neg (by omega)]
set_option maxRecDepth 10000 in
set_option maxHeartbeats 1000000 in
theorem ufirst_any (s : ByteArray) (w : World) (hs : s.size ≤ 9223372036854775807) : Calls Tryz.prog 178 #[.string s] w fun e w' => e = .returned (.int .i64 (firstR s)) ∧ Step w w' := by
  obtain ⟨T, hT⟩ : ∃ T, firstR s = T := ⟨_, rfl⟩
  have HT := hide hT
  rw [hT]
  clear hT
  go_enter Tryz.func178, Tryz.ntmps178
  go_wp2_with fail
  go_loopw [3, 4, 5] (fun k _ _ wr => ∃ (i f : Nat), i ≤ s.size ∧ s.size < i + f ∧ k = .int .i64 i ∧ Hid (firstN f s i = T) ∧ Step w wr) (fun k _ _ _ => s.size - (intOf k).toNat)
  case atStart => exact ⟨0, s.size + 1, by omega, by omega, rfl, HT.out, Step.of⟩
  case round =>
    obtain ⟨i, f, hi, hf, rfl, HF, hst⟩ := hrel
    obtain ⟨wo, rfl⟩ : ∃ x : World, x = wr := ⟨_, rfl⟩
    by_cases hlt : i < s.size
    · obtain ⟨f, rfl⟩ : ∃ g, f = g + 1 := ⟨f - 1, by omega⟩
      have RU := hide (fun w' => urune_any s (i : Int) w' hs)
      have he : runeR s (i : Int) = runeT s i := by rw [runeR, if_neg (by omega)]; rfl
      rw [he] at RU
      obtain ⟨hb0, hb1, hb2⟩ := runeT_bd s i
      have HST := hide (firstN_step (f := f) hlt)
      have HSP := hide (firstN_stop (f := f) hlt)
      generalize runeT s i = rt at RU hb0 hb1 hb2 HST HSP
      obtain ⟨r, k⟩ := rt
      simp only at RU hb0 hb1 hb2 HST HSP
      clear he
      by_cases hk : k = 0
      · have HE := hide (HSP.out hk)
        subst hk
        have HTE : Hid (T = (i : Int)) := by show _ = _; rw [← HF.out, HE.out]
        clear HST HSP HE hb0 hb1 hb2
        go_wp2_with (refine (RU.out _).mono ?_; rintro e w3 ⟨rfl, hs3⟩)
        go_ret
        exact ⟨ret_int HTE.out.symm, Step.of⟩
      · obtain ⟨n, rfl⟩ : ∃ n : Nat, k = n := ⟨k.toNat, by omega⟩
        have HE := hide (HST.out hk)
        have hn : i + n ≤ s.size := by have := hb2 (by omega); simpa using this
        have hn0 : 0 < n := by omega
        have hk2 : ((n : Int) == 0) = false := by simp; omega
        have hn4 : n ≤ 4 := by omega
        clear HST HSP hb0 hb1 hb2 hk
        go_wp2_with (refine (RU.out _).mono ?_; rintro e w3 ⟨rfl, hs3⟩)
        go_roundw
        case rel => exact ⟨i + n, f, hn, by omega, by go_num, by show _ = _; rw [← HF.out, HE.out]; simp, Step.of⟩
        case measure => simp [intOf]; omega
    · have HTE : Hid (T = -1) := by show _ = _; rw [← HF.out, firstN_end (by omega)]
      go_wp2_with fail
      go_ret
      exact ⟨ret_int HTE.out.symm, Step.of⟩
theorem uvalid_any (s : ByteArray) (w : World) (hs : s.size ≤ 9223372036854775807) : Calls Tryz.prog 153 #[.string s] w fun e w' => e = .returned (.bool (validB s)) ∧ Step w w' := by
  have UF := hide (fun w' => ufirst_any s w' hs)
  have HV : Hid (validB s = decide (firstR s < 0)) := hide rfl
  rw [HV.out]
  generalize firstR s = r at UF
  clear HV
  go_enter Tryz.func153, Tryz.ntmps153
  go_wp2_with (refine (UF.out _).mono ?_; rintro e w3 ⟨rfl, hs3⟩)
  go_ret
  exact ⟨rfl, Step.of⟩
end Go.Proofs.YtnphokhehacfnaaGreatDoor

namespace Go.Proofs.YtnphokhehacfnaaGreatDoor
open Go.RowKit

theorem plain_any (v : Val) (w : World) : Calls Tryz.prog 109 #[v.val] w fun e w' => e = .returned (clean v).val ∧ Step w w' := by
  obtain ⟨k, i, b, s⟩ := v
  unfold Val.val
  by_cases h1 : k = 1
  · subst h1
    go_enter Tryz.func109, Tryz.ntmps109
    go_wp2_with fail
    refine bodyPost_ret (v := .agg #[.int .i64 1, .int .i64 i, .bool false, .string ⟨#[]⟩]) (by simp [results, Tryz.results109, go_sem]) rfl ⟨rfl, Step.of⟩
  have e1 : (k == 1) = false := by simpa using h1
  by_cases h2 : k = 2
  · subst h2
    clear e1 h1
    go_enter Tryz.func109, Tryz.ntmps109
    go_wp2_with fail
    refine bodyPost_ret (v := .agg #[.int .i64 2, .int .i64 0, .bool b, .string ⟨#[]⟩]) (by simp [results, Tryz.results109, go_sem]) rfl ⟨rfl, Step.of⟩
  have e2 : (k == 2) = false := by simpa using h2
  by_cases h3 : k = 3
  · subst h3
    clear e1 h1 e2 h2
    go_enter Tryz.func109, Tryz.ntmps109
    go_wp2_with fail
    refine bodyPost_ret (v := .agg #[.int .i64 3, .int .i64 0, .bool false, .string s]) (by simp [results, Tryz.results109, go_sem]) rfl ⟨rfl, Step.of⟩
  have e3 : (k == 3) = false := by simpa using h3
  have HC : Hid (clean ⟨k, i, b, s⟩ = Val.zero) := by show clean _ = _; simp [clean, h1, h2, h3]
  clear h1 h2 h3
  go_enter Tryz.func109, Tryz.ntmps109
  go_wp2_with fail
  refine bodyPost_ret (v := .agg #[.int .i64 0, .int .i64 0, .bool false, .string ⟨#[]⟩]) (by simp [results, Tryz.results109, go_sem]) rfl ⟨by rw [HC.out]; rfl, Step.of⟩

def nullB (v : Val) : Bool := kindV v == 0
theorem bytesLess_nil (l : List UInt8) : Op.bytesLess l [] = false := by cases l <;> rfl
theorem val_fit (v : Val) : v.cells.length = 4 ∧ ∀ u ∈ v.cells, u.oneCell' = true := by
  refine ⟨rfl, fun u hu => ?_⟩
  simp [Val.cells] at hu
  rcases hu with rfl | rfl | rfl | rfl <;> rfl
theorem vals_fit (l : List Val) : Fit 4 (l.map Val.cells) := Fit.map val_fit l
/-- Plain, with its answer's fields written out. -/
theorem plain_ag (v : Val) (w : World) : Calls Tryz.prog 109 #[.agg #[.int .i64 v.kind, .int .i64 v.i, .bool v.b, .string v.s]] w fun e w' => e = .returned (.agg #[.int .i64 (kindV v), .int .i64 (clean v).i, .bool (clean v).b, .string (clean v).s]) ∧ Step w w' :=
  (plain_any v w).mono fun e w' h => ⟨by rw [h.1, ← clean_kind]; rfl, h.2⟩
end Go.Proofs.YtnphokhehacfnaaGreatDoor

namespace Go.Proofs.YtnphokhehacfnaaGreatDoor
open Go.RowKit

/-- A row, with where its values lie. -/
structure RowA where
  A : Option Addr
  cap : Nat
  vs : List Val
def RowA.cells (r : RowA) : List Value := [.slice r.A r.vs.length r.cap]
/-- A row that is read. -/
structure RowIn (w : World) (r : RowA) : Prop where
  hcap : r.vs.length ≤ r.cap
  hcapm : r.vs.length ≤ 3518437208780
  hcap2 : r.cap ≤ 9223372036854775807
  at_ : SlAt w w.heap.size 4 r.A (r.vs.map Val.cells)
  strs : ∀ v ∈ r.vs, v.s.size ≤ 9223372036854775807
theorem RowIn.fut {w w' : World} {r : RowA} (h : RowIn w r) [k : Fut w w'] : RowIn w' r := ⟨h.hcap, h.hcapm, h.hcap2, h.at_.fut, h.strs⟩
/-- Rows that are read. -/
structure RowsIn (w : World) (rs : List RowA) (A : Option Addr) (cap : Nat) : Prop where
  hcap : rs.length ≤ cap
  hcapm : rs.length ≤ 5864062014800
  hcap2 : cap ≤ 9223372036854775807
  at_ : SlAt w w.heap.size 1 A (rs.map RowA.cells)
  rows : ∀ r ∈ rs, RowIn w r
theorem RowsIn.fut {w w' : World} {rs : List RowA} {A : Option Addr} {cap : Nat} (h : RowsIn w rs A cap) [k : Fut w w'] : RowsIn w' rs A cap := ⟨h.hcap, h.hcapm, h.hcap2, h.at_.fut, fun r hr => (h.rows r hr).fut⟩
theorem row_fit (r : RowA) : r.cells.length = 1 ∧ ∀ u ∈ r.cells, u.oneCell' = true := by
  refine ⟨rfl, fun u hu => ?_⟩
  simp [RowA.cells] at hu
  subst hu
  rfl
theorem rows_fit (l : List RowA) : Fit 1 (l.map RowA.cells) := Fit.map row_fit l
/-- Row k, in whatever later world. -/
theorem RowsIn.row {w w' : World} {rs : List RowA} {A : Option Addr} {cap : Nat} (h : RowsIn w rs A cap) (hf : Fut w w') {k : Nat} (hk : k < rs.length) :
    ∃ b off, A = some ⟨b, off, none⟩ ∧ b < w.heap.size ∧ ∃ r, rs[k]? = some r ∧ RowIn w r ∧ w'.cell? ⟨b, off + k, none⟩ = some (.slice r.A r.vs.length r.cap) := by
  obtain ⟨b, off, e, hb, hc⟩ := h.at_.elem hf (k := k) (by simpa using hk)
  have hr : rs[k]? = some rs[k] := List.getElem?_eq_getElem hk
  refine ⟨b, off, e, hb, rs[k], hr, h.rows _ (List.getElem_mem hk), ?_⟩
  have h1 := At.l1 (hc k rs[k].cells (by simp [hr]))
  simpa using h1
theorem eiRow : EI Tryz.prog 28 67 1 24 :=
  ⟨Tryz.underlying28, info_parts (show (Tryz.prog.info? 67).map (fun i => (i.zero, i.size, i.bytes)) = some (some (.agg #[.slice none 0 0]), 1, 24) by kernel_rfl) |>.elim fun i h => ⟨i, _, h.1, h.2.1, h.2.2.1, h.2.2.2, rfl⟩, by decide, by decide⟩

theorem eiInt : EI Tryz.prog 68 3 1 8 :=
  ⟨Tryz.underlying68, info_parts (show (Tryz.prog.info? 3).map (fun i => (i.zero, i.size, i.bytes)) = some (some (.int .i64 0), 1, 8) by kernel_rfl) |>.elim fun i h => ⟨i, _, h.1, h.2.1, h.2.2.1, h.2.2.2, rfl⟩, by decide, by decide⟩
theorem int_fit (l : List Int) : Fit 1 (intCells l) := Fit.map (f := fun n : Int => [Value.int .i64 n]) (fun n => ⟨rfl, fun u hu => by simp at hu; rw [hu]; rfl⟩) l
theorem intCells_len (l : List Int) : (intCells l).length = l.length := by simp [intCells]
theorem eiV4 : EI Tryz.prog 65 36 4 40 :=
  ⟨Tryz.underlying65, info_parts (show (Tryz.prog.info? 36).map (fun i => (i.zero, i.size, i.bytes)) = some (some (.agg #[.int .i64 0, .int .i64 0, .bool false, .string .empty]), 4, 40) by kernel_rfl) |>.elim fun i h => ⟨i, _, h.1, h.2.1, h.2.2.1, h.2.2.2, rfl⟩, by decide, by decide⟩
theorem box_cells (v : Val) : (clean v).cells = [.int .i64 (kindV v), .int .i64 (clean v).i, .bool (clean v).b, .string (clean v).s] := by
  show [_, _, _, _] = [_, _, _, _]
  rw [clean_kind]
theorem box_fit (v : Val) : Fit 4 [[.int .i64 (kindV v), .int .i64 (clean v).i, .bool (clean v).b, .string (clean v).s]] := by
  rw [← box_cells]
  exact vals_fit [clean v]
theorem own_ne {w : World} {b1 b2 : Nat} {e1 e2 : TypeId} {s1 s2 : Nat} {v1 v2 : Value} {l1 l2 : List (List Value)} (h1 : Own w b1 e1 s1 v1 l1) (h2 : Own w b2 e2 s2 v2 l2) (hne : e1 ≠ e2) : ∀ k, v1.ownBlock = some k → v2.ownBlock ≠ some k := by
  intro k hk1 hk2
  rcases h1.2 with ⟨rfl, _⟩ | ⟨g, cap, cur, rfl, _, hh, _⟩
  · simp [Value.ownBlock] at hk1
  rcases h2.2 with ⟨rfl, _⟩ | ⟨g2, cap2, cur2, rfl, _, hh2, _⟩
  · simp [Value.ownBlock] at hk2
  simp [Value.ownBlock] at hk1 hk2
  subst hk1
  subst hk2
  rw [hh] at hh2
  simp at hh2
  exact hne hh2.2
/-- Rows that the call has made. -/
structure OwnR (w : World) (base : Nat) (A : Option Addr) (n c : Nat) (rs : List RowA) : Prop where
  out : Own w base 67 1 (.slice A n c) (rs.map RowA.cells)
  rows : ∀ r ∈ rs, Own w base 36 4 (.slice r.A r.vs.length r.cap) (r.vs.map Val.cells)
theorem OwnR.fut {w w' : World} {base : Nat} {A : Option Addr} {n c : Nat} {rs : List RowA} (h : OwnR w base A n c rs) [k : Fut w w'] : OwnR w' base A n c rs := ⟨h.out.fut, fun r hr => (h.rows r hr).fut⟩
theorem OwnR.app {w w' : World} {base : Nat} {A A' : Option Addr} {n c n' c' : Nat} {rs : List RowA} {r : RowA} (h : OwnR w base A n c rs) (hr : Own w base 36 4 (.slice r.A r.vs.length r.cap) (r.vs.map Val.cells)) (ho : Own w' base 67 1 (.slice A' n' c') (rs.map RowA.cells ++ [r.cells])) (hg : w.grownBy w' (Value.slice A n c).ownBlock) : OwnR w' base A' n' c' (rs ++ [r]) :=
  ⟨by simpa using ho, fun x hx => by
    have hx' : Own w base 36 4 (.slice x.A x.vs.length x.cap) (x.vs.map Val.cells) := by
      rcases List.mem_append.1 hx with hx | hx
      · exact h.rows x hx
      · simp at hx; subst hx; exact hr
    exact hx'.grown_other hg (own_ne hx' h.out (by decide))⟩
theorem slice_fit (A : Option Addr) (n c : Nat) : Fit 1 [[Value.slice A n c]] := by
  have := rows_fit [⟨A, c, List.replicate n ⟨0, 0, false, .empty⟩⟩]
  simpa [RowA.cells] using this
theorem own_len {w : World} {base : Nat} {A : Option Addr} {c : Nat} {vs : List Val} (h : Own w base 36 4 (.slice A vs.length c) ((vs.map clean).map Val.cells)) : Own w base 36 4 (.slice A (vs.map clean).length c) ((vs.map clean).map Val.cells) := by rw [List.length_map]; exact h
theorem row_cells {w : World} {base n c c2 : Nat} {A A2 : Option Addr} {vs : List Val} {l : List (List Value)} (h : Own w base 67 1 (.slice A n c) (l ++ [[.slice A2 vs.length c2]])) : Own w base 67 1 (.slice A n c) (l ++ [(RowA.mk A2 c2 (vs.map clean)).cells]) := by
  have : (RowA.mk A2 c2 (vs.map clean)).cells = [.slice A2 vs.length c2] := by simp [RowA.cells]
  rw [this]; exact h
/-- Rows that the call has made, read. -/
theorem RowIn.of_own {w : World} {base : Nat} {r : RowA} (h : Own w base 36 4 (.slice r.A r.vs.length r.cap) (r.vs.map Val.cells)) (hl : r.vs.length ≤ 3518437208780) (hs : ∀ v ∈ r.vs, v.s.size ≤ 9223372036854775807) : RowIn w r := by
  obtain ⟨A', c', hv, h1, h2, h3, _⟩ := h.slice (vals_fit r.vs).len (by simp : (r.vs.map Val.cells).length = r.vs.length)
  injection hv with e1 e2 e3
  subst e1 e3
  exact ⟨h1, hl, by simpa [maxLen] using h2, h3, hs⟩
theorem OwnR.rin {w : World} {base : Nat} {A : Option Addr} {c : Nat} {rs : List RowA} (h : OwnR w base A rs.length c rs) (hl : rs.length ≤ 5864062014800) (hs : ∀ vs ∈ rs.map RowA.vs, vs.length ≤ 3518437208780 ∧ ∀ v ∈ vs, v.s.size ≤ 9223372036854775807) : RowsIn w rs A c := by
  obtain ⟨A', c', hv, h1, h2, h3, _⟩ := h.out.slice (rows_fit rs).len (by simp : (rs.map RowA.cells).length = rs.length)
  injection hv with e1 e2 e3
  subst e1 e3
  exact ⟨h1, hl, by simpa [maxLen] using h2, h3, fun r hr => RowIn.of_own (h.rows r hr) (hs r.vs (List.mem_map.2 ⟨r, hr, rfl⟩)).1 (hs r.vs (List.mem_map.2 ⟨r, hr, rfl⟩)).2⟩
end Go.Proofs.YtnphokhehacfnaaGreatDoor

namespace Go.Proofs.YtnphokhehacfnaaGreatDoor
open Go.RowKit

theorem vecKind_yes (k : Int) (h : 1 ≤ k ∧ k ≤ 3) (w : World) : Calls Tryz.prog 104 #[.int .i64 k] w fun e w' => e = .returned (.bool true) ∧ w = w' := by
  obtain ⟨h1, h2⟩ := h
  go_enter Tryz.func104, Tryz.ntmps104
  go_wp2
  go_ret
  exact ⟨rfl, rfl⟩
theorem vecKind_no (k : Int) (h : ¬ (1 ≤ k ∧ k ≤ 3)) (w : World) : Calls Tryz.prog 104 #[.int .i64 k] w fun e w' => e = .returned (.bool false) ∧ w = w' := by
  by_cases h1 : 1 ≤ k
  · have h2 : 3 < k := by omega
    clear h
    go_enter Tryz.func104, Tryz.ntmps104
    go_wp2
    go_ret
    exact ⟨ret_bool (by simp; omega), rfl⟩
  · clear h
    go_enter Tryz.func104, Tryz.ntmps104
    go_wp2
    go_ret
    exact ⟨rfl, rfl⟩
theorem vecKind_any (k : Int) (w : World) : Calls Tryz.prog 104 #[.int .i64 k] w fun e w' => e = .returned (.bool (kindB k)) ∧ w = w' := by
  by_cases h : 1 ≤ k ∧ k ≤ 3
  · rw [show kindB k = true by simp [kindB, h]]; exact vecKind_yes k h w
  · rw [show kindB k = false by simpa [kindB] using h]; exact vecKind_no k h w

theorem find1_any (b : Nat) (c : Col) (s : ByteArray) (w : World) (h : w.cell? ⟨b, 0, none⟩ = some (.string s)) (hb : b < w.heap.size) :
    Calls Tryz.prog 160 #[c.val, .pointer (some ⟨b, 0, none⟩)] w fun e w' => e = .returned (.bool (c.name.toList == s.toList)) ∧ Below w.heap.size w w' := by
  unfold Col.val
  go_enter Tryz.func160, Tryz.ntmps160
  go_wp2
  go_ret
  exact ⟨rfl, (Below.refl _ _).alloc (Nat.le_refl _) _⟩

theorem indexFuncCol_any (f : FuncId) (caps : Array Value) (p : Col → Bool) (A : Option Addr) (cap : Nat) (cols : List Col) (w : World)
    (hB : cols.length ≤ 4611686018427387904) (hat : SlAt w w.heap.size 3 A (cols.map Col.cells))
    (hcall : ∀ args w, (callFunc f args).run Tryz.prog w = .ok (.enter f args) w)
    (hf : ∀ c ∈ cols, ∀ w', Below w.heap.size w w' → Calls Tryz.prog f (#[c.val] ++ caps) w' fun e w'' => e = .returned (.bool (p c)) ∧ Below w.heap.size w' w'') :
    Calls Tryz.prog 150 #[.slice A cols.length cap, .func (.func f) #[] caps] w fun e w' =>
      e = .returned (.int .i64 (idx p cols)) ∧ Below w.heap.size w w' := by
  have HF := Lib.hid hf; clear hf
  go_enter Tryz.func150, Tryz.ntmps150
  go_wp2
  go_loopw [8] (fun i wr => ∃ k : Nat, k ≤ cols.length ∧ i = .int .i64 k ∧ k ≤ cols.findIdx p ∧ Below w.heap.size w wr) (fun i _ => cols.length - (intOf i).toNat)
  case atStart => exact ⟨0, Nat.zero_le _, rfl, Nat.zero_le _, Below.refl _ _⟩
  case round =>
    obtain ⟨k, hk, rfl, hfi, hbw⟩ := hrel
    by_cases hlt : k < cols.length
    · obtain ⟨b, off, rfl, hb, hc⟩ := hat.keep hbw (by simpa using Nat.lt_of_le_of_lt (Nat.zero_le _) hlt)
      have hck := hc k cols[k].cells (by simp [hlt])
      obtain ⟨h1, h2, h3⟩ := At.l3 hck
      have HC := HF.out cols[k] (List.getElem_mem hlt) wr hbw
      unfold Col.val at HC
      have HC' := Lib.hid HC; clear HC hc
      cases hp : p cols[k] with
      | true =>
        have Hp := Lib.hid hp; clear hp
        go_wp2_with (refine HC'.out.mono ?_; rintro e w' ⟨rfl, hb'⟩; rw [Hp.out])
        go_ret
        have e : cols.findIdx p = k := fi_hit p cols k hlt hfi Hp.out
        exact ⟨ret_int (by simp [idx, e, hlt]), hbw.trans hb'⟩
      | false =>
        have Hp := Lib.hid hp; clear hp
        go_wp2_with (refine HC'.out.mono ?_; rintro e w' ⟨rfl, hb'⟩; rw [Hp.out])
        go_roundw
        case rel => 
          exact ⟨k + 1, by omega, by go_num, fi_miss p cols k hlt hfi Hp.out, hbw.trans hb'⟩
        case measure => simp [intOf]; omega
    · go_wp2_with fail
      go_ret
      exact ⟨ret_int (by rw [idx, if_neg (by omega)]), hbw⟩

theorem find_any (id next : Int) (A : Option Addr) (cap : Nat) (cols : List Col) (nm : ByteArray) (w : World)
    (hB : cols.length ≤ 4611686018427387904) (hat : SlAt w w.heap.size 3 A (cols.map Col.cells)) :
    Calls Tryz.prog 125 #[.agg #[.int .i64 id, .slice A cols.length cap, .int .i64 next], .string nm] w fun e w' =>
      e = .returned (.int .i64 (idx (named nm) cols)) ∧ Below w.heap.size w w' := by
  go_enter Tryz.func125, Tryz.ntmps125
  go_wp2_with fail
  refine (indexFuncCol_any _ _ (named nm) A cap cols _ hB ?_ ?_ ?_).mono ?_
  · exact (hat.al _).al _
  · intro args w1
    kernel_rfl
  · intro c hc w' hb'
    obtain ⟨hc1, _⟩ := bcell hb'
    refine (find1_any _ c nm w' ?_ ?_).mono fun e w2 ⟨he, hb2⟩ => ⟨he, hb2.mono hb'.size⟩
    · rw [hc1 _ _ (by simp)]; simp [go_sem]
    · have := hb'.size; simp at this; omega
  · rintro e w' ⟨rfl, hb'⟩
    go_wp2_with fail
    go_ret
    exact ⟨rfl, below_from1 (below_from1 hb')⟩

end Go.Proofs.YtnphokhehacfnaaGreatDoor

namespace Go.Proofs.YtnphokhehacfnaaGreatDoor
open Go.RowKit

set_option maxRecDepth 10000 in
set_option maxHeartbeats 2000000 in
theorem fits_any (kd : Int) (v : Val) (w : World) (hs : v.s.size ≤ 9223372036854775807) :
    Calls Tryz.prog 110 #[.int .i64 kd, .agg #[.int .i64 v.kind, .int .i64 v.i, .bool v.b, .string v.s]] w fun e w' => e = .returned (.bool (fitsB kd v)) ∧ Step w w' := by
  have PV := hide (plain_ag v)
  have HVB := hide (Blk.new w [.int .i64 v.kind, .int .i64 v.i, .bool v.b, .string v.s] 36)
  have hcs : (clean v).s.size ≤ 9223372036854775807 := by
    unfold clean
    split
    · exact Nat.zero_le _
    split
    · exact Nat.zero_le _
    split
    · exact hs
    · exact Nat.zero_le _
  have UV := hide (fun w' => uvalid_any (clean v).s w' hcs)
  obtain ⟨R, hR⟩ : ∃ R, fitsB kd v = R := ⟨_, rfl⟩
  have HF : Hid ((kindV v == 0 || (kindV v == kd && decide ((clean v).s.size ≤ 64) && validB (clean v).s)) = R) := hide hR
  rw [hR]
  clear hR
  generalize kindV v = a at PV HF
  generalize (clean v).i = b at PV
  generalize (clean v).b = c at PV
  generalize (clean v).s = d at PV UV HF hcs
  by_cases h0 : a = 0
  · obtain rfl : R = true := by rw [← HF.out, h0]; simp
    subst h0
    clear HF
    go_enter Tryz.func110, Tryz.ntmps110
    go_wp2_with (go_at_call 109; (with_reducible refine (PV.out _).mono ?_); rintro e w2 ⟨rfl, hs2⟩; have bx := (HVB.out.fut (w' := w2)); obtain ⟨x0, x1, x2, x3⟩ := At.z4 bx.at0; have fx := bx.free; have lx := bx.lt; clear bx)
    go_ret
    exact ⟨rfl, Step.of⟩
  · have h0b : (a == 0) = false := by simpa using h0
    rw [h0b, Bool.false_or] at HF
    by_cases h1 : a = kd
    · subst h1
      rw [beq_self_eq_true, Bool.true_and] at HF
      clear h0
      by_cases h2 : d.size ≤ 64
      · have h2i : decide ((d.size : Int) ≤ 64) = true := by simp; omega
        rw [decide_eq_true h2, Bool.true_and] at HF
        rw [HF.out] at UV
        clear h2 HF
        go_enter Tryz.func110, Tryz.ntmps110
        go_wp2_with (first | (go_at_call 109; (with_reducible refine (PV.out _).mono ?_); rintro e w2 ⟨rfl, hs2⟩; have bx := (HVB.out.fut (w' := w2)); obtain ⟨x0, x1, x2, x3⟩ := At.z4 bx.at0; have fx := bx.free; have lx := bx.lt; clear bx) | (go_at_call 153; (with_reducible refine (UV.out _).mono ?_); rintro e w3 ⟨rfl, hs3⟩))
        go_ret
        exact ⟨rfl, Step.of⟩
      · have h2i : decide ((d.size : Int) ≤ 64) = false := by simp; omega
        rw [decide_eq_false h2, Bool.false_and] at HF
        obtain rfl : R = false := HF.out.symm
        clear h2
        go_enter Tryz.func110, Tryz.ntmps110
        go_wp2_with (go_at_call 109; (with_reducible refine (PV.out _).mono ?_); rintro e w2 ⟨rfl, hs2⟩; have bx := (HVB.out.fut (w' := w2)); obtain ⟨x0, x1, x2, x3⟩ := At.z4 bx.at0; have fx := bx.free; have lx := bx.lt; clear bx)
        go_ret
        exact ⟨rfl, Step.of⟩
    · have h1b : (a == kd) = false := by simpa using h1
      rw [h1b, Bool.false_and, Bool.false_and] at HF
      obtain rfl : R = false := HF.out.symm
      clear h1 h0
      go_enter Tryz.func110, Tryz.ntmps110
      go_wp2_with (go_at_call 109; (with_reducible refine (PV.out _).mono ?_); rintro e w2 ⟨rfl, hs2⟩; have bx := (HVB.out.fut (w' := w2)); obtain ⟨x0, x1, x2, x3⟩ := At.z4 bx.at0; have fx := bx.free; have lx := bx.lt; clear bx)
      go_ret
      exact ⟨rfl, Step.of⟩

/-- A file's data, with where it lies. -/
structure DatA where
  rows : Int
  cols : List Col
  A : Option Addr
  cap : Nat
  vals : List RowA
  Av : Option Addr
  cv : Nat
def DatA.val (d : DatA) : Value := .agg #[.int .i64 d.rows, .slice d.A d.cols.length d.cap, .slice d.Av d.vals.length d.cv]
def DatA.vss (d : DatA) : List (List Val) := d.vals.map RowA.vs
structure DatIn (w : World) (d : DatA) : Prop where
  cat : SlAt w w.heap.size 3 d.A (d.cols.map Col.cells)
  ccap : d.cols.length ≤ d.cap
  ccapm : d.cap ≤ 9223372036854775807
  clen : d.cols.length ≤ 4398046511102
  names : ∀ c ∈ d.cols, c.name.size ≤ 9223372036854775807
  vals : RowsIn w d.vals d.Av d.cv
theorem DatIn.fut {w w' : World} {d : DatA} (h : DatIn w d) [k : Fut w w'] : DatIn w' d := ⟨h.cat.fut, h.ccap, h.ccapm, h.clen, h.names, h.vals.fut⟩

end Go.Proofs.YtnphokhehacfnaaGreatDoor

