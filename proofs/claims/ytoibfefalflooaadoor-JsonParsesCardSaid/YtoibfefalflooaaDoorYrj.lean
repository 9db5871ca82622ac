/-
  Runes: the programs.
-/
import Derived.Test.YtoibfefalflooaaDoorYu
import Derived.Test.YtoibfefalflooaaDoorBl
namespace Go.Proofs.YtoibfefalflooaaDoor
open Go.RowKit

def formsV : Value := .agg #[.int .i64 0, .int .i64 0, .int .i64 0, .int .i64 128, .int .i64 0, .int .i64 0, .int .i64 224, .int .i64 192, .int .i64 128, .int .i64 240, .int .i64 224, .int .i64 2048, .int .i64 248, .int .i64 240, .int .i64 65536]
theorem forms_any (w : World) : Calls Tryd.prog 64 #[] w fun e w' => e = .returned formsV ∧ Step w w' := by
  go_enter Tryd.func64, Tryd.ntmps64
  go_wp2_with fail
  refine bodyPost_ret (v := formsV) (by simp [formsV, results, Tryd.results64, go_sem]) rfl ⟨rfl, Step.of⟩
theorem umay_any (r : Int) (w : World) : Calls Tryd.prog 65 #[.int .i64 r] w fun e w' => e = .returned (.bool (mayR r)) ∧ Step w w' := by
  have HM : Hid (mayR r = (decide (0 ≤ r) && decide (r ≤ 1114111) && (decide (r < 55296) || decide (57343 < r)))) := hide rfl
  rw [HM.out]
  clear HM
  by_cases h0 : 0 ≤ r <;> by_cases h1 : r ≤ 1114111 <;> by_cases h2 : r < 55296 <;> by_cases h3 : 57343 < r
  all_goals first | (exfalso; omega) | skip
  all_goals
    go_enter Tryd.func65, Tryd.ntmps65
    go_wp2_with fail
    go_ret
    exact ⟨ret_bool (by simp; try omega), Step.of⟩

theorem next_at (s : ByteArray) {m : Nat} (h : m < s.size) : nextB s m = if 128 ≤ s[m].toNat ∧ s[m].toNat ≤ 191 then (s[m].toNat : Int) - 128 else -1 := by rw [nextB, dif_pos h]
theorem or6 {x : Int} {y : Nat} (h0 : 0 ≤ x) (h1 : x < 67108864) (hy : y < 64) : bits .or .i64 (x * 64) (y : Int) = x * 64 + y := by
  obtain ⟨a, rfl⟩ : ∃ a : Nat, x = a := ⟨x.toNat, by omega⟩
  show IntKind.i64.wrap ((BitVec.ofInt 64 ((a : Int) * 64) ||| BitVec.ofInt 64 (y : Int)).toNat : Int) = _
  have e1 : (BitVec.ofInt 64 ((a : Int) * 64)).toNat = a <<< 6 := by rw [BitVec.toNat_ofInt, Nat.shiftLeft_eq]; omega
  have e2 : (BitVec.ofInt 64 (y : Int)).toNat = y := by rw [BitVec.toNat_ofInt]; omega
  rw [BitVec.toNat_or, e1, e2, ← Nat.shiftLeft_add_eq_or_of_lt (by simpa using hy), Nat.shiftLeft_eq, IntKind.wrap_i64]
  omega
set_option maxRecDepth 100000 in
set_option maxHeartbeats 4000000 in
theorem urune_any (s : ByteArray) (at_ : Int) (w : World) (hs : s.size ≤ 9223372036854775807) :
    Calls Tryd.prog 54 #[.string s, .int .i64 at_] w fun e w' => e = .returned (.tuple #[.int .i64 (runeR s at_).1, .int .i64 (runeR s at_).2]) ∧ Step w w' := by
  by_cases h0 : at_ < 0
  · have HR : Hid (runeR s at_ = (0, 0)) := by show _ = _; rw [runeR, if_pos h0]
    rw [HR.out]
    go_enter Tryd.func54, Tryd.ntmps54
    go_wp2_with fail
    go_ret2
    exact ⟨rfl, Step.of⟩
  by_cases h1 : s.size ≤ at_
  · have HR : Hid (runeR s at_ = (0, 0)) := by show _ = _; rw [runeR, if_neg h0, runeT, dif_neg (by omega)]
    rw [HR.out]
    go_enter Tryd.func54, Tryd.ntmps54
    go_wp2_with fail
    go_ret2
    exact ⟨rfl, Step.of⟩
  obtain ⟨i, rfl⟩ : ∃ i : Nat, at_ = (i : Int) := ⟨at_.toNat, by omega⟩
  have hi : i < s.size := by omega
  have HRR : Hid (runeR s (i : Int) = runeT s i) := by show _ = _; rw [runeR, if_neg h0]; rfl
  rw [HRR.out]
  clear h0 h1 HRR
  obtain ⟨T, hT⟩ : ∃ T, runeT s i = T := ⟨_, rfl⟩
  have HT := hide hT
  rw [hT]
  clear hT
  have i0 : ∀ (w : World), (Instr.index 90 formsV (.int .i64 0)).run Tryd.prog w = .ok (.agg #[.int .i64 0, .int .i64 0, .int .i64 0]) w := fun _ => by kernel_rfl
  have i1 : ∀ (w : World), (Instr.index 90 formsV (.int .i64 1)).run Tryd.prog w = .ok (.agg #[.int .i64 128, .int .i64 0, .int .i64 0]) w := fun _ => by kernel_rfl
  have i2 : ∀ (w : World), (Instr.index 90 formsV (.int .i64 2)).run Tryd.prog w = .ok (.agg #[.int .i64 224, .int .i64 192, .int .i64 128]) w := fun _ => by kernel_rfl
  have i3 : ∀ (w : World), (Instr.index 90 formsV (.int .i64 3)).run Tryd.prog w = .ok (.agg #[.int .i64 240, .int .i64 224, .int .i64 2048]) w := fun _ => by kernel_rfl
  have i4 : ∀ (w : World), (Instr.index 90 formsV (.int .i64 4)).run Tryd.prog w = .ok (.agg #[.int .i64 248, .int .i64 240, .int .i64 65536]) w := fun _ => by kernel_rfl
  have FM := hide forms_any
  go_enter Tryd.func54, Tryd.ntmps54
  go_wp2_with (refine (FM.out _).mono ?_; rintro e w1 ⟨rfl, hs1⟩)
  have hi0 : (0 : Int) ≤ (i : Int) := by omega
  have hi1 : (i : Int) < (s.size : Int) := by omega
  have hc := s[i].toNat_lt
  obtain ⟨FT, hFT⟩ : ∃ FT, formT s[i].toNat = FT := ⟨_, rfl⟩
  have HFT := hide hFT
  have hle := form_le s[i].toNat
  rw [hFT] at hle
  clear hFT
  go_loopw [6, 7, 8, 9, 19] (fun _ _ _ _ k wr => ∃ n : Nat, n ≤ 5 ∧ n ≤ FT ∧ k = .int .i64 n ∧ Step w wr) (fun _ _ _ _ k _ => 5 - (intOf k).toNat)
  case atStart => exact ⟨0, by omega, by omega, rfl, Step.of⟩
  case round =>
    obtain ⟨n, hn, hnf, rfl, hst⟩ := hrel
    obtain ⟨wo, rfl⟩ : ∃ x : World, x = wr := ⟨_, rfl⟩
    rcases Nat.lt_or_ge n 5 with h5 | h5
    · match n, h5 with
      | 0, _ =>
        have f0 : FT ≠ 0 := by omega
        go_wp2_with fail
        go_quiet (fail)
        go_wp2_with fail
        go_roundw
        case rel => exact ⟨1, by omega, by omega, rfl, Step.of⟩
        case measure => simp [intOf]
      | 1, _ =>
        have FTEST := form_test s[i] (k := 1) (by omega)
        rw [HFT.out] at FTEST
        rcases Nat.lt_or_ge 1 FT with hlt | hge
        · have t1 : (bits .and .i64 (s[i].toNat : Int) 128 != 0) = true := by
            have : (bits .and .i64 (s[i].toNat : Int) 128 == 0) = false := by
              refine (show (bits .and .i64 (s[i].toNat : Int) (maskT 1) == headT 1) = false from ?_)
              rw [FTEST]; simp; omega
            simp only [bne, this, Bool.not_false]
          clear FTEST
          go_wp2_with fail
          go_quiet (fail)
          go_wp2_with fail
          go_roundw
          case rel => exact ⟨1 + 1, by omega, by omega, rfl, Step.of⟩
          case measure => simp [intOf]
        · obtain rfl : FT = 1 := by omega
          have t1 : (bits .and .i64 (s[i].toNat : Int) 128 != 0) = false := by
            have : (bits .and .i64 (s[i].toNat : Int) 128 == 0) = true := by
              refine (show (bits .and .i64 (s[i].toNat : Int) (maskT 1) == headT 1) = true from ?_)
              rw [FTEST]; simp
            simp only [bne, this, Bool.not_true]
          clear FTEST
          have HTE := hide (rune_end hi (n := 1) (by omega) HFT.out)
          rcases Nat.lt_or_ge s.size (i + 1) with hsh | hsh
          · exfalso; omega
          have hq : decide ((s.size : Int) - (i : Int) < 1) = false := by simp; omega
          obtain ⟨c0, hc0⟩ : ∃ c0, bits .andNot .i64 (s[i].toNat : Int) 128 = c0 := ⟨_, rfl⟩
          have HC0 : Hid (c0 = (s[i].toNat : Int) - 0) := by show _ = _; rw [← hc0]; exact form_rest s[i] (k := 1) (by omega) HFT.out
          go_wp2_with fail
          go_quiet (fail)
          go_wp2_with fail
          go_quiet (fail)
          go_wp2_with fail
          clear t1 hc0 hq
          go_loop [8, 9] (fun r k => ∃ (m : Nat) (x : Int), i + 1 ≤ m ∧ m ≤ i + 1 ∧ k = .int .i64 m ∧ r = .int .i64 x ∧ Hid (x = accT s i c0 (m - (i + 1))) ∧ Hid (∀ q, q < m - (i + 1) → 0 ≤ nextB s (i + 1 + q))) (fun _ k => s.size - (intOf k).toNat)
          case atStart => exact ⟨i + 1, c0, by omega, by omega, by go_num, rfl, by show _ = _; simp [accT], by intro q hq; omega⟩
          case round =>
            obtain ⟨m, x, hm1, hm2, rfl, rfl, HX, HG⟩ := hrel
            have hx : 0 ≤ x ∧ x < 67108864 := by rw [HX.out]; exact accT_3 (by rw [HC0.out]; have := form_1 HFT.out; omega) (by rw [HC0.out]; omega) (by omega) HG.out
            obtain ⟨hx0, hx1⟩ := hx
            rcases Nat.lt_or_ge m (i + 1) with hlt | hge
            · have hms : m < s.size := by omega
              have hml : (m : Int) < (i : Int) + 1 := by omega
              have HNX := hide (next_at s hms)
              by_cases hon : 128 ≤ s[m].toNat ∧ s[m].toNat ≤ 191
              · have hon1 : (bits .and .u8 (s[m].toNat : Int) 192 != 128) = false := by
                  have := (on_test s[m]).1
                  simp only [bne, this]; simp; omega
                have hon2 : bits .and .u8 (s[m].toNat : Int) 63 = ((s[m].toNat % 64 : Nat) : Int) := (on_test s[m]).2
                obtain ⟨y, hy⟩ : ∃ y : Nat, s[m].toNat % 64 = y := ⟨_, rfl⟩
                have hy1 : y < 64 := by omega
                rw [hy] at hon2
                have hor : bits .or .i64 (x * 64) (y : Int) = x * 64 + y := or6 hx0 hx1 hy1
                have HY : Hid (nextB s m = y) := by show _ = _; rw [HNX.out, if_pos hon]; omega
                clear hon hy
                go_wp2_with fail
                go_round
                case rel =>
                  refine ⟨m + 1, x * 64 + y, by omega, by omega, by go_num, rfl, ?_, ?_⟩
                  · show _ = _
                    have e : m + 1 - (i + 1) = (m - (i + 1)) + 1 := by omega
                    rw [e, accT, ← HX.out, show i + 1 + (m - (i + 1)) = m by omega, HY.out]
                  · intro q hq
                    rcases Nat.lt_or_ge q (m - (i + 1)) with h | h
                    · exact HG.out q h
                    · obtain rfl : q = m - (i + 1) := by omega
                      rw [show i + 1 + (m - (i + 1)) = m by omega, HY.out]
                      omega
                case measure => simp [intOf]; omega
              · have hon1 : (bits .and .u8 (s[m].toNat : Int) 192 != 128) = true := by
                  have := (on_test s[m]).1
                  simp only [bne, this]; simp; omega
                have hE : Hid (T = (0, 0)) := by
                  show _ = _
                  rw [← HT.out]
                  refine rune_cut hi (n := 1) (j := m - (i + 1)) (by omega) HFT.out (by omega) ?_
                  rw [show i + 1 + (m - (i + 1)) = m by omega, HNX.out, if_neg hon]
                  omega
                clear hon
                go_wp2_with fail
                go_ret2
                exact ⟨by rw [hE.out]; rfl, Step.of⟩
            · obtain rfl : m = i + 1 := by omega
              have HE : Hid (T = endR x 1) := by
                show _ = _
                rw [← HT.out, HTE.out (fun j hj => HG.out j (by omega)), HX.out, HC0.out, show i + 1 - (i + 1) = 1 - 1 by omega]
                rfl
              clear HG HX HTE
              by_cases hl : x < 0
              · exfalso; omega
              · have hl2 : decide (x < 0) = false := by simp; omega
                have MY := hide (umay_any x)
                cases hmy : mayR x with
                | true =>
                  have hE : Hid (T = (x, 1)) := by show _ = _; rw [HE.out, endR, show leastT 1 = 0 from rfl, if_neg hl, hmy]; rfl
                  rw [hmy] at MY
                  clear hmy hl
                  go_wp2_with (refine (MY.out _).mono ?_; rintro e w3 ⟨rfl, hs3⟩)
                  go_ret2
                  exact ⟨by rw [hE.out]; rfl, Step.of⟩
                | false =>
                  have hE : Hid (T = (0, 0)) := by show _ = _; rw [HE.out, endR, show leastT 1 = 0 from rfl, if_neg hl, hmy]; rfl
                  rw [hmy] at MY
                  clear hmy hl
                  go_wp2_with (refine (MY.out _).mono ?_; rintro e w3 ⟨rfl, hs3⟩)
                  go_ret2
                  exact ⟨by rw [hE.out]; rfl, Step.of⟩
      | 2, _ =>
        have FTEST := form_test s[i] (k := 2) (by omega)
        rw [HFT.out] at FTEST
        rcases Nat.lt_or_ge 2 FT with hlt | hge
        · have t1 : (bits .and .i64 (s[i].toNat : Int) 224 != 192) = true := by
            have : (bits .and .i64 (s[i].toNat : Int) 224 == 192) = false := by
              refine (show (bits .and .i64 (s[i].toNat : Int) (maskT 2) == headT 2) = false from ?_)
              rw [FTEST]; simp; omega
            simp only [bne, this, Bool.not_false]
          clear FTEST
          go_wp2_with fail
          go_quiet (fail)
          go_wp2_with fail
          go_roundw
          case rel => exact ⟨2 + 1, by omega, by omega, rfl, Step.of⟩
          case measure => simp [intOf]
        · obtain rfl : FT = 2 := by omega
          have t1 : (bits .and .i64 (s[i].toNat : Int) 224 != 192) = false := by
            have : (bits .and .i64 (s[i].toNat : Int) 224 == 192) = true := by
              refine (show (bits .and .i64 (s[i].toNat : Int) (maskT 2) == headT 2) = true from ?_)
              rw [FTEST]; simp
            simp only [bne, this, Bool.not_true]
          clear FTEST
          have HTE := hide (rune_end hi (n := 2) (by omega) HFT.out)
          rcases Nat.lt_or_ge s.size (i + 2) with hsh | hsh
          · have hq : decide ((s.size : Int) - (i : Int) < 2) = true := by simp; omega
            have hE : Hid (T = (0, 0)) := by show _ = _; rw [← HT.out]; exact rune_short hi (n := 2) (by omega) HFT.out hsh
            go_wp2_with fail
            go_quiet (fail)
            go_wp2_with fail
            go_ret2
            exact ⟨by rw [hE.out]; rfl, Step.of⟩
          have hq : decide ((s.size : Int) - (i : Int) < 2) = false := by simp; omega
          obtain ⟨c0, hc0⟩ : ∃ c0, bits .andNot .i64 (s[i].toNat : Int) 224 = c0 := ⟨_, rfl⟩
          have HC0 : Hid (c0 = (s[i].toNat : Int) - 192) := by show _ = _; rw [← hc0]; exact form_rest s[i] (k := 2) (by omega) HFT.out
          go_wp2_with fail
          go_quiet (fail)
          go_wp2_with fail
          go_quiet (fail)
          go_wp2_with fail
          clear t1 hc0 hq
          go_loop [8, 9] (fun r k => ∃ (m : Nat) (x : Int), i + 1 ≤ m ∧ m ≤ i + 2 ∧ k = .int .i64 m ∧ r = .int .i64 x ∧ Hid (x = accT s i c0 (m - (i + 1))) ∧ Hid (∀ q, q < m - (i + 1) → 0 ≤ nextB s (i + 1 + q))) (fun _ k => s.size - (intOf k).toNat)
          case atStart => exact ⟨i + 1, c0, by omega, by omega, by go_num, rfl, by show _ = _; simp [accT], by intro q hq; omega⟩
          case round =>
            obtain ⟨m, x, hm1, hm2, rfl, rfl, HX, HG⟩ := hrel
            have hx : 0 ≤ x ∧ x < 67108864 := by rw [HX.out]; exact accT_3 (by rw [HC0.out]; have := form_2 HFT.out; omega) (by rw [HC0.out]; omega) (by omega) HG.out
            obtain ⟨hx0, hx1⟩ := hx
            rcases Nat.lt_or_ge m (i + 2) with hlt | hge
            · have hms : m < s.size := by omega
              have hml : (m : Int) < (i : Int) + 2 := by omega
              have HNX := hide (next_at s hms)
              by_cases hon : 128 ≤ s[m].toNat ∧ s[m].toNat ≤ 191
              · have hon1 : (bits .and .u8 (s[m].toNat : Int) 192 != 128) = false := by
                  have := (on_test s[m]).1
                  simp only [bne, this]; simp; omega
                have hon2 : bits .and .u8 (s[m].toNat : Int) 63 = ((s[m].toNat % 64 : Nat) : Int) := (on_test s[m]).2
                obtain ⟨y, hy⟩ : ∃ y : Nat, s[m].toNat % 64 = y := ⟨_, rfl⟩
                have hy1 : y < 64 := by omega
                rw [hy] at hon2
                have hor : bits .or .i64 (x * 64) (y : Int) = x * 64 + y := or6 hx0 hx1 hy1
                have HY : Hid (nextB s m = y) := by show _ = _; rw [HNX.out, if_pos hon]; omega
                clear hon hy
                go_wp2_with fail
                go_round
                case rel =>
                  refine ⟨m + 1, x * 64 + y, by omega, by omega, by go_num, rfl, ?_, ?_⟩
                  · show _ = _
                    have e : m + 1 - (i + 1) = (m - (i + 1)) + 1 := by omega
                    rw [e, accT, ← HX.out, show i + 1 + (m - (i + 1)) = m by omega, HY.out]
                  · intro q hq
                    rcases Nat.lt_or_ge q (m - (i + 1)) with h | h
                    · exact HG.out q h
                    · obtain rfl : q = m - (i + 1) := by omega
                      rw [show i + 1 + (m - (i + 1)) = m by omega, HY.out]
                      omega
                case measure => simp [intOf]; omega
              · have hon1 : (bits .and .u8 (s[m].toNat : Int) 192 != 128) = true := by
                  have := (on_test s[m]).1
                  simp only [bne, this]; simp; omega
                have hE : Hid (T = (0, 0)) := by
                  show _ = _
                  rw [← HT.out]
                  refine rune_cut hi (n := 2) (j := m - (i + 1)) (by omega) HFT.out (by omega) ?_
                  rw [show i + 1 + (m - (i + 1)) = m by omega, HNX.out, if_neg hon]
                  omega
                clear hon
                go_wp2_with fail
                go_ret2
                exact ⟨by rw [hE.out]; rfl, Step.of⟩
            · obtain rfl : m = i + 2 := by omega
              have HE : Hid (T = endR x 2) := by
                show _ = _
                rw [← HT.out, HTE.out (fun j hj => HG.out j (by omega)), HX.out, HC0.out, show i + 2 - (i + 1) = 2 - 1 by omega]
                rfl
              clear HG HX HTE
              by_cases hl : x < 128
              · have hE : Hid (T = (0, 0)) := by show _ = _; rw [HE.out, endR, show leastT 2 = 128 from rfl, if_pos hl]
                go_wp2_with fail
                go_ret2
                exact ⟨by rw [hE.out]; rfl, Step.of⟩
              · have hl2 : decide (x < 128) = false := by simp; omega
                have MY := hide (umay_any x)
                cases hmy : mayR x with
                | true =>
                  have hE : Hid (T = (x, 2)) := by show _ = _; rw [HE.out, endR, show leastT 2 = 128 from rfl, if_neg hl, hmy]; rfl
                  rw [hmy] at MY
                  clear hmy hl
                  go_wp2_with (refine (MY.out _).mono ?_; rintro e w3 ⟨rfl, hs3⟩)
                  go_ret2
                  exact ⟨by rw [hE.out]; rfl, Step.of⟩
                | false =>
                  have hE : Hid (T = (0, 0)) := by show _ = _; rw [HE.out, endR, show leastT 2 = 128 from rfl, if_neg hl, hmy]; rfl
                  rw [hmy] at MY
                  clear hmy hl
                  go_wp2_with (refine (MY.out _).mono ?_; rintro e w3 ⟨rfl, hs3⟩)
                  go_ret2
                  exact ⟨by rw [hE.out]; rfl, Step.of⟩
      | 3, _ =>
        have FTEST := form_test s[i] (k := 3) (by omega)
        rw [HFT.out] at FTEST
        rcases Nat.lt_or_ge 3 FT with hlt | hge
        · have t1 : (bits .and .i64 (s[i].toNat : Int) 240 != 224) = true := by
            have : (bits .and .i64 (s[i].toNat : Int) 240 == 224) = false := by
              refine (show (bits .and .i64 (s[i].toNat : Int) (maskT 3) == headT 3) = false from ?_)
              rw [FTEST]; simp; omega
            simp only [bne, this, Bool.not_false]
          clear FTEST
          go_wp2_with fail
          go_quiet (fail)
          go_wp2_with fail
          go_roundw
          case rel => exact ⟨3 + 1, by omega, by omega, rfl, Step.of⟩
          case measure => simp [intOf]
        · obtain rfl : FT = 3 := by omega
          have t1 : (bits .and .i64 (s[i].toNat : Int) 240 != 224) = false := by
            have : (bits .and .i64 (s[i].toNat : Int) 240 == 224) = true := by
              refine (show (bits .and .i64 (s[i].toNat : Int) (maskT 3) == headT 3) = true from ?_)
              rw [FTEST]; simp
            simp only [bne, this, Bool.not_true]
          clear FTEST
          have HTE := hide (rune_end hi (n := 3) (by omega) HFT.out)
          rcases Nat.lt_or_ge s.size (i + 3) with hsh | hsh
          · have hq : decide ((s.size : Int) - (i : Int) < 3) = true := by simp; omega
            have hE : Hid (T = (0, 0)) := by show _ = _; rw [← HT.out]; exact rune_short hi (n := 3) (by omega) HFT.out hsh
            go_wp2_with fail
            go_quiet (fail)
            go_wp2_with fail
            go_ret2
            exact ⟨by rw [hE.out]; rfl, Step.of⟩
          have hq : decide ((s.size : Int) - (i : Int) < 3) = false := by simp; omega
          obtain ⟨c0, hc0⟩ : ∃ c0, bits .andNot .i64 (s[i].toNat : Int) 240 = c0 := ⟨_, rfl⟩
          have HC0 : Hid (c0 = (s[i].toNat : Int) - 224) := by show _ = _; rw [← hc0]; exact form_rest s[i] (k := 3) (by omega) HFT.out
          go_wp2_with fail
          go_quiet (fail)
          go_wp2_with fail
          go_quiet (fail)
          go_wp2_with fail
          clear t1 hc0 hq
          go_loop [8, 9] (fun r k => ∃ (m : Nat) (x : Int), i + 1 ≤ m ∧ m ≤ i + 3 ∧ k = .int .i64 m ∧ r = .int .i64 x ∧ Hid (x = accT s i c0 (m - (i + 1))) ∧ Hid (∀ q, q < m - (i + 1) → 0 ≤ nextB s (i + 1 + q))) (fun _ k => s.size - (intOf k).toNat)
          case atStart => exact ⟨i + 1, c0, by omega, by omega, by go_num, rfl, by show _ = _; simp [accT], by intro q hq; omega⟩
          case round =>
            obtain ⟨m, x, hm1, hm2, rfl, rfl, HX, HG⟩ := hrel
            have hx : 0 ≤ x ∧ x < 67108864 := by rw [HX.out]; exact accT_3 (by rw [HC0.out]; have := form_3 HFT.out; omega) (by rw [HC0.out]; omega) (by omega) HG.out
            obtain ⟨hx0, hx1⟩ := hx
            rcases Nat.lt_or_ge m (i + 3) with hlt | hge
            · have hms : m < s.size := by omega
              have hml : (m : Int) < (i : Int) + 3 := by omega
              have HNX := hide (next_at s hms)
              by_cases hon : 128 ≤ s[m].toNat ∧ s[m].toNat ≤ 191
              · have hon1 : (bits .and .u8 (s[m].toNat : Int) 192 != 128) = false := by
                  have := (on_test s[m]).1
                  simp only [bne, this]; simp; omega
                have hon2 : bits .and .u8 (s[m].toNat : Int) 63 = ((s[m].toNat % 64 : Nat) : Int) := (on_test s[m]).2
                obtain ⟨y, hy⟩ : ∃ y : Nat, s[m].toNat % 64 = y := ⟨_, rfl⟩
                have hy1 : y < 64 := by omega
                rw [hy] at hon2
                have hor : bits .or .i64 (x * 64) (y : Int) = x * 64 + y := or6 hx0 hx1 hy1
                have HY : Hid (nextB s m = y) := by show _ = _; rw [HNX.out, if_pos hon]; omega
                clear hon hy
                go_wp2_with fail
                go_round
                case rel =>
                  refine ⟨m + 1, x * 64 + y, by omega, by omega, by go_num, rfl, ?_, ?_⟩
                  · show _ = _
                    have e : m + 1 - (i + 1) = (m - (i + 1)) + 1 := by omega
                    rw [e, accT, ← HX.out, show i + 1 + (m - (i + 1)) = m by omega, HY.out]
                  · intro q hq
                    rcases Nat.lt_or_ge q (m - (i + 1)) with h | h
                    · exact HG.out q h
                    · obtain rfl : q = m - (i + 1) := by omega
                      rw [show i + 1 + (m - (i + 1)) = m by omega, HY.out]
                      omega
                case measure => simp [intOf]; omega
              · have hon1 : (bits .and .u8 (s[m].toNat : Int) 192 != 128) = true := by
                  have := (on_test s[m]).1
                  simp only [bne, this]; simp; omega
                have hE : Hid (T = (0, 0)) := by
                  show _ = _
                  rw [← HT.out]
                  refine rune_cut hi (n := 3) (j := m - (i + 1)) (by omega) HFT.out (by omega) ?_
                  rw [show i + 1 + (m - (i + 1)) = m by omega, HNX.out, if_neg hon]
                  omega
                clear hon
                go_wp2_with fail
                go_ret2
                exact ⟨by rw [hE.out]; rfl, Step.of⟩
            · obtain rfl : m = i + 3 := by omega
              have HE : Hid (T = endR x 3) := by
                show _ = _
                rw [← HT.out, HTE.out (fun j hj => HG.out j (by omega)), HX.out, HC0.out, show i + 3 - (i + 1) = 3 - 1 by omega]
                rfl
              clear HG HX HTE
              by_cases hl : x < 2048
              · have hE : Hid (T = (0, 0)) := by show _ = _; rw [HE.out, endR, show leastT 3 = 2048 from rfl, if_pos hl]
                go_wp2_with fail
                go_ret2
                exact ⟨by rw [hE.out]; rfl, Step.of⟩
              · have hl2 : decide (x < 2048) = false := by simp; omega
                have MY := hide (umay_any x)
                cases hmy : mayR x with
                | true =>
                  have hE : Hid (T = (x, 3)) := by show _ = _; rw [HE.out, endR, show leastT 3 = 2048 from rfl, if_neg hl, hmy]; rfl
                  rw [hmy] at MY
                  clear hmy hl
                  go_wp2_with (refine (MY.out _).mono ?_; rintro e w3 ⟨rfl, hs3⟩)
                  go_ret2
                  exact ⟨by rw [hE.out]; rfl, Step.of⟩
                | false =>
                  have hE : Hid (T = (0, 0)) := by show _ = _; rw [HE.out, endR, show leastT 3 = 2048 from rfl, if_neg hl, hmy]; rfl
                  rw [hmy] at MY
                  clear hmy hl
                  go_wp2_with (refine (MY.out _).mono ?_; rintro e w3 ⟨rfl, hs3⟩)
                  go_ret2
                  exact ⟨by rw [hE.out]; rfl, Step.of⟩
      | 4, _ =>
        have FTEST := form_test s[i] (k := 4) (by omega)
        rw [HFT.out] at FTEST
        rcases Nat.lt_or_ge 4 FT with hlt | hge
        · have t1 : (bits .and .i64 (s[i].toNat : Int) 248 != 240) = true := by
            have : (bits .and .i64 (s[i].toNat : Int) 248 == 240) = false := by
              refine (show (bits .and .i64 (s[i].toNat : Int) (maskT 4) == headT 4) = false from ?_)
              rw [FTEST]; simp; omega
            simp only [bne, this, Bool.not_false]
          clear FTEST
          go_wp2_with fail
          go_quiet (fail)
          go_wp2_with fail
          go_roundw
          case rel => exact ⟨4 + 1, by omega, by omega, rfl, Step.of⟩
          case measure => simp [intOf]
        · obtain rfl : FT = 4 := by omega
          have t1 : (bits .and .i64 (s[i].toNat : Int) 248 != 240) = false := by
            have : (bits .and .i64 (s[i].toNat : Int) 248 == 240) = true := by
              refine (show (bits .and .i64 (s[i].toNat : Int) (maskT 4) == headT 4) = true from ?_)
              rw [FTEST]; simp
            simp only [bne, this, Bool.not_true]
          clear FTEST
          have HTE := hide (rune_end hi (n := 4) (by omega) HFT.out)
          rcases Nat.lt_or_ge s.size (i + 4) with hsh | hsh
          · have hq : decide ((s.size : Int) - (i : Int) < 4) = true := by simp; omega
            have hE : Hid (T = (0, 0)) := by show _ = _; rw [← HT.out]; exact rune_short hi (n := 4) (by omega) HFT.out hsh
            go_wp2_with fail
            go_quiet (fail)
            go_wp2_with fail
            go_ret2
            exact ⟨by rw [hE.out]; rfl, Step.of⟩
          have hq : decide ((s.size : Int) - (i : Int) < 4) = false := by simp; omega
          obtain ⟨c0, hc0⟩ : ∃ c0, bits .andNot .i64 (s[i].toNat : Int) 248 = c0 := ⟨_, rfl⟩
          have HC0 : Hid (c0 = (s[i].toNat : Int) - 240) := by show _ = _; rw [← hc0]; exact form_rest s[i] (k := 4) (by omega) HFT.out
          go_wp2_with fail
          go_quiet (fail)
          go_wp2_with fail
          go_quiet (fail)
          go_wp2_with fail
          clear t1 hc0 hq
          go_loop [8, 9] (fun r k => ∃ (m : Nat) (x : Int), i + 1 ≤ m ∧ m ≤ i + 4 ∧ k = .int .i64 m ∧ r = .int .i64 x ∧ Hid (x = accT s i c0 (m - (i + 1))) ∧ Hid (∀ q, q < m - (i + 1) → 0 ≤ nextB s (i + 1 + q))) (fun _ k => s.size - (intOf k).toNat)
          case atStart => exact ⟨i + 1, c0, by omega, by omega, by go_num, rfl, by show _ = _; simp [accT], by intro q hq; omega⟩
          case round =>
            obtain ⟨m, x, hm1, hm2, rfl, rfl, HX, HG⟩ := hrel
            have hx : 0 ≤ x ∧ x < 67108864 := by rw [HX.out]; exact accT_3 (by rw [HC0.out]; have := form_4 HFT.out; omega) (by rw [HC0.out]; omega) (by omega) HG.out
            obtain ⟨hx0, hx1⟩ := hx
            rcases Nat.lt_or_ge m (i + 4) with hlt | hge
            · have hms : m < s.size := by omega
              have hml : (m : Int) < (i : Int) + 4 := by omega
              have HNX := hide (next_at s hms)
              by_cases hon : 128 ≤ s[m].toNat ∧ s[m].toNat ≤ 191
              · have hon1 : (bits .and .u8 (s[m].toNat : Int) 192 != 128) = false := by
                  have := (on_test s[m]).1
                  simp only [bne, this]; simp; omega
                have hon2 : bits .and .u8 (s[m].toNat : Int) 63 = ((s[m].toNat % 64 : Nat) : Int) := (on_test s[m]).2
                obtain ⟨y, hy⟩ : ∃ y : Nat, s[m].toNat % 64 = y := ⟨_, rfl⟩
                have hy1 : y < 64 := by omega
                rw [hy] at hon2
                have hor : bits .or .i64 (x * 64) (y : Int) = x * 64 + y := or6 hx0 hx1 hy1
                have HY : Hid (nextB s m = y) := by show _ = _; rw [HNX.out, if_pos hon]; omega
                clear hon hy
                go_wp2_with fail
                go_round
                case rel =>
                  refine ⟨m + 1, x * 64 + y, by omega, by omega, by go_num, rfl, ?_, ?_⟩
                  · show _ = _
                    have e : m + 1 - (i + 1) = (m - (i + 1)) + 1 := by omega
                    rw [e, accT, ← HX.out, show i + 1 + (m - (i + 1)) = m by omega, HY.out]
                  · intro q hq
                    rcases Nat.lt_or_ge q (m - (i + 1)) with h | h
                    · exact HG.out q h
                    · obtain rfl : q = m - (i + 1) := by omega
                      rw [show i + 1 + (m - (i + 1)) = m by omega, HY.out]
                      omega
                case measure => simp [intOf]; omega
              · have hon1 : (bits .and .u8 (s[m].toNat : Int) 192 != 128) = true := by
                  have := (on_test s[m]).1
                  simp only [bne, this]; simp; omega
                have hE : Hid (T = (0, 0)) := by
                  show _ = _
                  rw [← HT.out]
                  refine rune_cut hi (n := 4) (j := m - (i + 1)) (by omega) HFT.out (by omega) ?_
                  rw [show i + 1 + (m - (i + 1)) = m by omega, HNX.out, if_neg hon]
                  omega
                clear hon
                go_wp2_with fail
                go_ret2
                exact ⟨by rw [hE.out]; rfl, Step.of⟩
            · obtain rfl : m = i + 4 := by omega
              have HE : Hid (T = endR x 4) := by
                show _ = _
                rw [← HT.out, HTE.out (fun j hj => HG.out j (by omega)), HX.out, HC0.out, show i + 4 - (i + 1) = 4 - 1 by omega]
                rfl
              clear HG HX HTE
              by_cases hl : x < 65536
              · have hE : Hid (T = (0, 0)) := by show _ = _; rw [HE.out, endR, show leastT 4 = 65536 from rfl, if_pos hl]
                go_wp2_with fail
                go_ret2
                exact ⟨by rw [hE.out]; rfl, Step.of⟩
              · have hl2 : decide (x < 65536) = false := by simp; omega
                have MY := hide (umay_any x)
                cases hmy : mayR x with
                | true =>
                  have hE : Hid (T = (x, 4)) := by show _ = _; rw [HE.out, endR, show leastT 4 = 65536 from rfl, if_neg hl, hmy]; rfl
                  rw [hmy] at MY
                  clear hmy hl
                  go_wp2_with (refine (MY.out _).mono ?_; rintro e w3 ⟨rfl, hs3⟩)
                  go_ret2
                  exact ⟨by rw [hE.out]; rfl, Step.of⟩
                | false =>
                  have hE : Hid (T = (0, 0)) := by show _ = _; rw [HE.out, endR, show leastT 4 = 65536 from rfl, if_neg hl, hmy]; rfl
                  rw [hmy] at MY
                  clear hmy hl
                  go_wp2_with (refine (MY.out _).mono ?_; rintro e w3 ⟨rfl, hs3⟩)
                  go_ret2
                  exact ⟨by rw [hE.out]; rfl, Step.of⟩
    · obtain rfl : n = 5 := by omega
      have hE : Hid (T = (0, 0)) := by show _ = _; rw [← HT.out]; exact rune_none hi (by rw [HFT.out]; omega)
      go_wp2_with fail
      go_ret2
      exact ⟨by rw [hE.out]; rfl, Step.of⟩
theorem firstN_step {f : Nat} {s : ByteArray} {i : Nat} (hi : i < s.size) (h : (runeT s i).2 ≠ 0) : firstN (f + 1) s i = firstN f s (i + (runeT s i).2.toNat) := by rw [firstN, if_pos hi, if_neg h]
theorem firstN_stop {f : Nat} {s : ByteArray} {i : Nat} (hi : i < s.size) (h : (runeT s i).2 = 0) : firstN (f + 1) s i = i := by rw [firstN, if_pos hi, if_pos h]
theorem firstN_end {f : Nat} {s : ByteArray} {i : Nat} (hi : s.size ≤ i) : firstN f s i = -1 := by
  cases f with
  | zero => rfl
  | succ f => rw [firstN, if_neg (by omega)]
set_option maxRecDepth 10000 in
set_option maxHeartbeats 1000000 in
theorem ufirst_any (s : ByteArray) (w : World) (hs : s.size ≤ 9223372036854775807) : Calls Tryd.prog 70 #[.string s] w fun e w' => e = .returned (.int .i64 (firstR s)) ∧ Step w w' := by
  obtain ⟨T, hT⟩ : ∃ T, firstR s = T := ⟨_, rfl⟩
  have HT := hide hT
  rw [hT]
  clear hT
  go_enter Tryd.func70, Tryd.ntmps70
  go_wp2_with fail
  go_loopw [3, 4, 5] (fun k _ _ wr => ∃ (i f : Nat), i ≤ s.size ∧ s.size < i + f ∧ k = .int .i64 i ∧ Hid (firstN f s i = T) ∧ Step w wr) (fun k _ _ _ => s.size - (intOf k).toNat)
  case atStart => exact ⟨0, s.size + 1, by omega, by omega, rfl, HT.out, Step.of⟩
  case round =>
    obtain ⟨i, f, hi, hf, rfl, HF, hst⟩ := hrel
    obtain ⟨wo, rfl⟩ : ∃ x : World, x = wr := ⟨_, rfl⟩
    by_cases hlt : i < s.size
    · obtain ⟨f, rfl⟩ : ∃ g, f = g + 1 := ⟨f - 1, by omega⟩
      have RU := hide (fun w' => urune_any s (i : Int) w' hs)
      have he : runeR s (i : Int) = runeT s i := by rw [runeR, if_neg (by omega)]; rfl
      rw [he] at RU
      obtain ⟨hb0, hb1, hb2⟩ := runeT_bd s i
      have HST := hide (firstN_step (f := f) hlt)
      have HSP := hide (firstN_stop (f := f) hlt)
      generalize runeT s i = rt at RU hb0 hb1 hb2 HST HSP
      obtain ⟨r, k⟩ := rt
      simp only at RU hb0 hb1 hb2 HST HSP
      clear he
      by_cases hk : k = 0
      · have HE := hide (HSP.out hk)
        subst hk
        have HTE : Hid (T = (i : Int)) := by show _ = _; rw [← HF.out, HE.out]
        clear HST HSP HE hb0 hb1 hb2
        go_wp2_with (refine (RU.out _).mono ?_; rintro e w3 ⟨rfl, hs3⟩)
        go_ret
        exact ⟨ret_int HTE.out.symm, Step.of⟩
      · obtain ⟨n, rfl⟩ : ∃ n : Nat, k = n := ⟨k.toNat, by omega⟩
        have HE := hide (HST.out hk)
        have hn : i + n ≤ s.size := by have := hb2 (by omega); simpa using this
        have hn0 : 0 < n := by omega
        have hk2 : ((n : Int) == 0) = false := by simp; omega
        have hn4 : n ≤ 4 := by omega
        clear HST HSP hb0 hb1 hb2 hk
        go_wp2_with (refine (RU.out _).mono ?_; rintro e w3 ⟨rfl, hs3⟩)
        go_roundw
        case rel => exact ⟨i + n, f, hn, by omega, by go_num, by show _ = _; rw [← HF.out, HE.out]; simp, Step.of⟩
        case measure => simp [intOf]; omega
    · have HTE : Hid (T = -1) := by show _ = _; rw [← HF.out, firstN_end (by omega)]
      go_wp2_with fail
      go_ret
      exact ⟨ret_int HTE.out.symm, Step.of⟩
theorem uvalid_any (s : ByteArray) (w : World) (hs : s.size ≤ 9223372036854775807) : Calls Tryd.prog 59 #[.string s] w fun e w' => e = .returned (.bool (validB s)) ∧ Step w w' := by
  have UF := hide (fun w' => ufirst_any s w' hs)
  have HV : Hid (validB s = decide (firstR s < 0)) := hide rfl
  rw [HV.out]
  generalize firstR s = r at UF
  clear HV
  go_enter Tryd.func59, Tryd.ntmps59
  go_wp2_with (refine (UF.out _).mono ?_; rintro e w3 ⟨rfl, hs3⟩)
  go_ret
  exact ⟨rfl, Step.of⟩
end Go.Proofs.YtoibfefalflooaaDoor
