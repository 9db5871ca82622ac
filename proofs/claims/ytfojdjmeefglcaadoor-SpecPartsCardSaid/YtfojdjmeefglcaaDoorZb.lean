/-
  What a field makes of a value, piece by piece.
-/
import Derived.Test.YtfojdjmeefglcaaDoorZa
import Derived.Test.YtfojdjmeefglcaaDoorYs
import Derived.Test.YtfojdjmeefglcaaDoorTe
import Derived.Laws.IdiomStrings
import Derived.Laws.Bits64
namespace Go.Proofs.YtfojdjmeefglcaaDoor
open Go.RowKit

theorem tmod_cases (x k : Int) (h : 1 ≤ k) : (x.tmod k = x % k ∧ 0 ≤ x.tmod k) ∨ (x.tmod k = x % k - k ∧ x.tmod k < 0) := by
  have h1 := Int.emod_nonneg x (show k ≠ 0 by omega)
  have h2 := Int.emod_lt_of_pos x (show 0 < k by omega)
  rcases Int.le_total 0 x with hx | hx
  · have := Int.tmod_eq_emod_of_nonneg (b := k) hx
    exact .inl ⟨this, by omega⟩
  · have h3 := @Int.tmod_eq_emod x k
    rw [h3]
    split
    · left; omega
    · rename_i h4
      have : x % k ≠ 0 := fun e => h4 (.inr (Int.dvd_of_emod_eq_zero e))
      right; omega
set_option maxHeartbeats 1000000 in
theorem pfloor_any (x k : Int) (w : World) (h1 : 1 ≤ k) (h2 : k ≤ 1024) (hx : -9223372036854775808 ≤ x) (hx2 : x ≤ 9223372036854775807) :
    Calls Tryd.prog 85 #[.int .i64 x, .int .i64 k] w fun e w' => e = .returned (.int .i64 (floorT x k)) ∧ Step w w' := by
  have HM := hide (tmod_cases x k h1)
  have HN : Hid (0 ≤ x % k ∧ x % k < k) := ⟨Int.emod_nonneg x (by omega), Int.emod_lt_of_pos x (by omega)⟩
  go_enter Tryd.func85, Tryd.ntmps85
  go_wp2_with fail
  all_goals
    go_ret
    refine ⟨ret_int ?_, Step.of⟩
    have e1 := HM.out
    have e2 := HN.out
    clear HM HN
    generalize x.tmod k = t at *
    simp only [floorT]
    generalize x % k = r at *
    simp only [wrap64] at *
    split <;> omega
set_option maxRecDepth 10000 in
set_option maxHeartbeats 1000000 in
theorem pfirst_any (s : ByteArray) (k : Int) (w : World) (h1 : 1 ≤ k) (h2 : k ≤ 1024) (hs : s.size ≤ 9223372036854775000) :
    Calls Tryd.prog 86 #[.string s, .int .i64 k] w fun e w' => e = .returned (.string (firstT s k)) ∧ Step w w' := by
  obtain ⟨R, hR⟩ : ∃ R, preN k.toNat s 0 = R := ⟨_, rfl⟩
  have HR := hide hR
  have HF : Hid (firstT s k = s.extract 0 R) := by show _ = _; rw [firstT, hR]
  rw [HF.out]
  clear hR HF
  go_enter Tryd.func86, Tryd.ntmps86
  go_wp2_with fail
  go_loopw [1, 5, 6, 7] (fun m at_ _ _ wr => ∃ c a : Nat, c ≤ 1024 ∧ a ≤ s.size ∧ m = .int .i64 c ∧ at_ = .int .i64 a ∧ Hid (preN c s a = R) ∧ Step w wr) (fun m _ _ _ _ => (intOf m).toNat)
  case atStart => exact ⟨k.toNat, 0, by omega, Nat.zero_le _, by rw [show ((k.toNat : Nat) : Int) = k by omega], rfl, HR.out, Step.of⟩
  case round =>
    obtain ⟨c, a, hc, ha, rfl, rfl, HP, hst⟩ := hrel
    obtain ⟨wo, rfl⟩ : ∃ x : World, x = wr := ⟨_, rfl⟩
    by_cases hc0 : c = 0
    · subst hc0
      obtain rfl : a = R := HP.out
      go_wp2_with fail
      go_ret
      exact ⟨rfl, Step.of⟩
    · by_cases hlt : a < s.size
      · obtain ⟨c, rfl⟩ : ∃ d, c = d + 1 := ⟨c - 1, by omega⟩
        have hc1 : (0 : Int) < (c : Int) + 1 := by omega
        have hal : (a : Int) < (s.size : Int) := by omega
        have ha0 : (0 : Int) ≤ (a : Int) := by omega
        have HS : Hid (preN (c + 1) s a = preN c s (a + (max (runeT s a).2 1).toNat)) := by show _ = _; rw [preN, if_pos hlt]
        have hst4 := pre_step s a hlt
        have RU := hide (fun w' => urune_any s (a : Int) w' (by omega))
        have he : runeR s (a : Int) = runeT s a := by rw [runeR, if_neg (by omega)]; rfl
        rw [he] at RU
        obtain ⟨hb0, hb1, _⟩ := runeT_bd s a
        generalize runeT s a = rt at RU HS hst4 hb0 hb1
        obtain ⟨r, n⟩ := rt
        simp only at RU HS hst4 hb0 hb1
        clear he hc0
        rcases Int.lt_or_le n 1 with h | h
        · obtain rfl : n = 0 := by omega
          go_wp2_with (refine (RU.out _).mono ?_; rintro e w3 ⟨rfl, hs3⟩)
          go_roundw
          case rel => exact ⟨c, a + 1, by omega, by omega, by go_num, by go_num, by show _ = _; rw [← HP.out, HS.out]; rfl, Step.of⟩
          case measure => simp [intOf]; try omega
        · obtain ⟨m, rfl⟩ : ∃ m : Nat, n = m := ⟨n.toNat, by omega⟩
          have hm : (max (m : Int) 1).toNat = m := by omega
          rw [hm] at HS hst4
          have hm2 : max (m : Int) 1 = m := by omega
          have hm3 : m ≤ 4 := by omega
          clear hm
          go_wp2_with (refine (RU.out _).mono ?_; rintro e w3 ⟨rfl, hs3⟩)
          go_roundw
          case rel => exact ⟨c, a + m, by omega, hst4, by go_num, by go_num, by show _ = _; rw [← HP.out, HS.out], Step.of⟩
          case measure => simp [intOf]; try omega
      · obtain rfl : a = R := by rw [← HP.out, preN_stop (by omega)]
        have hc1 : (0 : Int) < (c : Int) := by omega
        have hal : decide (a < s.size) = false := by simpa using hlt
        clear hlt
        go_wp2_with fail
        go_ret
        exact ⟨rfl, Step.of⟩
def byteF (x : Int) (i : Nat) : Value := .int .u8 (byteT x i).toNat
theorem byteF_eq (x : Int) (i : Nat) : byteF x i = .int .u8 (x / 2 ^ (56 - 8 * i) % 256) := by
  have h1 := Int.emod_nonneg (x / 2 ^ (56 - 8 * i)) (show (256 : Int) ≠ 0 by decide)
  have h2 := Int.emod_lt_of_pos (x / 2 ^ (56 - 8 * i)) (show (0 : Int) < 256 by decide)
  unfold byteF byteT
  rw [UInt8.toNat_ofNat']
  congr 1
  omega
set_option maxRecDepth 10000 in
set_option maxHeartbeats 1000000 in
theorem pbytes_any (v : Val) (w : World) : Calls Tryd.prog 84 #[.agg #[.int .i64 v.kind, .int .i64 v.i, .bool v.b, .string v.s]] w fun e w' => e = .returned (.string (bytesT v)) ∧ Step w w' := by
  by_cases h1 : v.kind = 1
  · have h1b : (v.kind == 1) = true := by simpa using h1
    obtain ⟨W, hW⟩ : ∃ W, W = (w.alloc (.cells #[.int .i64 1, .int .i64 v.i, .bool v.b, .string v.s] 73)).alloc (.cells #[.int .u8 0, .int .u8 0, .int .u8 0, .int .u8 0, .int .u8 0, .int .u8 0, .int .u8 0, .int .u8 0] 140) := ⟨_, rfl⟩
    have SW : Step w W := by rw [hW]; exact Step.of
    have HB0 : Hid (Blk W w.heap.size 73 [.int .i64 1, .int .i64 v.i, .bool v.b, .string v.s]) := by rw [hW]; exact (Blk.new w [.int .i64 1, .int .i64 v.i, .bool v.b, .string v.s] 73).alloc _
    have HB1 : Hid (Blk W (w.heap.size + 1) 140 (List.replicate 8 (.int .u8 0))) := by rw [hW]; exact Blk.new_at (by simp) (List.replicate 8 (.int .u8 0)) 140
    have HW := hide hW
    clear hW
    go_enter Tryd.func84, Tryd.ntmps84
    go_wp2_with fail
    rw [← HW.out]
    go_loopw [4, 9] (fun _ i wr => ∃ k : Nat, k ≤ 8 ∧ i = .int .i64 k ∧ Blk wr (w.heap.size + 1) 140 ((List.range k).map (byteF v.i) ++ List.replicate (8 - k) (.int .u8 0)) ∧ Blk wr w.heap.size 73 [.int .i64 1, .int .i64 v.i, .bool v.b, .string v.s] ∧ Step w wr) (fun _ i _ => 8 - (intOf i).toNat)
    case atStart => exact ⟨0, by omega, rfl, HB1.out, HB0.out, SW⟩
    case round =>
      obtain ⟨k, hk, rfl, hb1, hb0, hst⟩ := hrel
      have HB1 := hide hb1; have HB0 := hide hb0
      clear hb1 hb0
      obtain ⟨wo, hwo⟩ : ∃ x : World, x = wr := ⟨_, rfl⟩
      rw [← hwo] at HB1 HB0 hst
      rw [← hwo]
      clear hwo
      have hzo := hst.size
      have lp := HB1.out.lt
      by_cases hlt : k < 8
      · have hkl : (k : Int) < 8 := by omega
        have hk0 : (0 : Int) ≤ (k : Int) := by omega
        obtain ⟨p0, p1, p2, p3⟩ := At.z4 HB0.out.at0
        have lq := HB0.out.lt
        have f1 := HB1.out.free
        have c0 : wo.cell? ⟨w.heap.size + 1, k, none⟩ = some (.int .u8 0) := by
          have := HB1.out.at0 k (.int .u8 0) (by rw [List.getElem?_append_right (by simp), List.getElem?_replicate, if_pos (by simp; omega)])
          simpa using this
        go_wp2_with fail
        go_roundw
        case rel =>
          refine ⟨k + 1, by omega, by go_num, ?_, HB0.out.far (by simp) _, ⟨hst.below.setCell (by simp) _⟩⟩
          have h1 := HB1.out.set_ k (.int .u8 (v.i / 2 ^ (56 - 8 * k) % 256))
          have e : ((List.range k).map (byteF v.i) ++ List.replicate (8 - k) (Value.int .u8 0)).set k (byteF v.i k) = (List.range (k + 1)).map (byteF v.i) ++ List.replicate (8 - (k + 1)) (.int .u8 0) := by
            rw [List.set_append, if_neg (by simp), List.length_map, List.length_range, Nat.sub_self, List.range_succ, List.map_append, show 8 - k = (8 - (k + 1)) + 1 by omega, List.replicate_succ, List.set_cons_zero]
            simp
          rw [← e, byteF_eq]
          exact h1
        case measure => simp [intOf]; omega
      · obtain rfl : k = 8 := by omega
        rw [show List.replicate (8 - 8) (Value.int .u8 0) = [] from rfl, List.append_nil] at HB1
        have hcv := run_convert_bytes_back (P := Tryd.prog) wo 51 9 5 ⟨w.heap.size + 1, 0, none⟩ 8 ((List.range 8).map (byteT v.i)) Tryd.underlying51 Tryd.underlying5 Tryd.underlying9 (fun j hj => by
          have hj8 : j < 8 := by simpa using hj
          have := HB1.out.at0 j (byteF v.i j) (by simp [hj8])
          rw [Addr.add_lit]
          simpa [byteF] using this)
        rw [show ((List.range 8).map (byteT v.i)).length = 8 by simp] at hcv
        have HE : Hid (bytesT v = ⟨((List.range 8).map (byteT v.i)).toArray⟩) := by show _ = _; rw [bytesT, if_pos h1]; rfl
        generalize ((List.range 8).map (byteT v.i)).toArray = ar at hcv HE
        go_wp2_with fail
        go_ret
        exact ⟨by rw [HE.out]; rfl, Step.of⟩
  · have h1b : (v.kind == 1) = false := by simpa using h1
    by_cases h2 : v.kind = 2
    · have h2b : (v.kind == 2) = true := by simpa using h2
      cases hb : v.b with
      | true =>
        have HE : Hid (bytesT v = ⟨#[1]⟩) := by show _ = _; rw [bytesT, if_neg h1, if_pos h2, hb]; rfl
        clear h1 h2
        go_enter Tryd.func84, Tryd.ntmps84
        go_wp2_with fail
        go_ret
        exact ⟨by rw [HE.out]; rfl, Step.of⟩
      | false =>
        have HE : Hid (bytesT v = ⟨#[0]⟩) := by show _ = _; rw [bytesT, if_neg h1, if_pos h2, hb]; rfl
        clear h1 h2
        go_enter Tryd.func84, Tryd.ntmps84
        go_wp2_with fail
        go_ret
        exact ⟨by rw [HE.out]; rfl, Step.of⟩
    · have h2b : (v.kind == 2) = false := by simpa using h2
      have HE : Hid (bytesT v = v.s) := by show _ = _; rw [bytesT, if_neg h1, if_neg h2]
      clear h1 h2
      go_enter Tryd.func84, Tryd.ntmps84
      go_wp2_with fail
      go_ret
      exact ⟨by rw [HE.out]; rfl, Step.of⟩
set_option maxRecDepth 10000 in
set_option maxHeartbeats 1000000 in
theorem rrunes_any (s : ByteArray) (k : Int) (w : World) (h1 : 1 ≤ k) (h2 : k ≤ 1024) (hs : s.size ≤ 9223372036854775000) :
    Calls Tryd.prog 90 #[.string s, .int .i64 k] w fun e w' => e = .returned (.string (firstT s k)) ∧ Step w w' := by
  obtain ⟨R, hR⟩ : ∃ R, preN k.toNat s 0 = R := ⟨_, rfl⟩
  have HR := hide hR
  have HF : Hid (firstT s k = s.extract 0 R) := by show _ = _; rw [firstT, hR]
  rw [HF.out]
  clear hR HF
  obtain ⟨K, rfl⟩ : ∃ K : Nat, k = K := ⟨k.toNat, by omega⟩
  rw [Int.toNat_natCast] at HR
  go_enter Tryd.func90, Tryd.ntmps90
  go_wp2_with fail
  go_loopw [5, 6, 7, 8] (fun at_ m _ _ wr => ∃ c a j : Nat, c + j = K ∧ a ≤ s.size ∧ m = .int .i64 j ∧ at_ = .int .i64 a ∧ Hid (preN c s a = R) ∧ Step w wr) (fun _ m _ _ _ => K - (intOf m).toNat)
  case atStart => exact ⟨K, 0, 0, by omega, Nat.zero_le _, rfl, rfl, HR.out, Step.of⟩
  case round =>
    obtain ⟨c, a, j, hc, ha, rfl, rfl, HP, hst⟩ := hrel
    obtain ⟨wo, rfl⟩ : ∃ x : World, x = wr := ⟨_, rfl⟩
    by_cases hc0 : c = 0
    · subst hc0
      obtain rfl : a = R := HP.out
      have hjk : decide (j < K) = false := by simp; omega
      go_wp2_with fail
      go_ret
      exact ⟨rfl, Step.of⟩
    · have hjk : decide (j < K) = true := by simp; omega
      by_cases hlt : a < s.size
      · obtain ⟨c, rfl⟩ : ∃ d, c = d + 1 := ⟨c - 1, by omega⟩
        have hal : (a : Int) < (s.size : Int) := by omega
        have ha0 : (0 : Int) ≤ (a : Int) := by omega
        have hj1 : j ≤ 1024 := by omega
        have HS : Hid (preN (c + 1) s a = preN c s (a + (max (runeT s a).2 1).toNat)) := by show _ = _; rw [preN, if_pos hlt]
        have hst4 := pre_step s a hlt
        have RU := hide (fun w' => rrune_any s (a : Int) w' hs)
        have he : runeR s (a : Int) = runeT s a := by rw [runeR, if_neg (by omega)]; rfl
        rw [he] at RU
        obtain ⟨hb0, hb1, _⟩ := runeT_bd s a
        generalize runeT s a = rt at RU HS hst4 hb0 hb1
        obtain ⟨r, n⟩ := rt
        simp only at RU HS hst4 hb0 hb1
        clear he hc0
        rcases Int.lt_or_le n 1 with h | h
        · obtain rfl : n = 0 := by omega
          go_wp2_with (refine (RU.out _).mono ?_; rintro e w3 ⟨rfl, hs3⟩)
          go_roundw
          case rel => exact ⟨c, a + 1, j + 1, by omega, by omega, by go_num, by go_num, by show _ = _; rw [← HP.out, HS.out]; rfl, Step.of⟩
          case measure => simp [intOf]; try omega
        · obtain ⟨m, rfl⟩ : ∃ m : Nat, n = m := ⟨n.toNat, by omega⟩
          have hm : (max (m : Int) 1).toNat = m := by omega
          rw [hm] at HS hst4
          have hm2 : max (m : Int) 1 = m := by omega
          have hm3 : m ≤ 4 := by omega
          clear hm
          go_wp2_with (refine (RU.out _).mono ?_; rintro e w3 ⟨rfl, hs3⟩)
          go_roundw
          case rel => exact ⟨c, a + m, j + 1, by omega, hst4, by go_num, by go_num, by show _ = _; rw [← HP.out, HS.out], Step.of⟩
          case measure => simp [intOf]; try omega
      · obtain rfl : a = R := by rw [← HP.out, preN_stop (by omega)]
        have hal : decide (a < s.size) = false := by simpa using hlt
        clear hlt
        go_wp2_with fail
        go_ret
        exact ⟨rfl, Step.of⟩
theorem fieldMay_any (f : Fld) (w : World) : Calls Tryd.prog 87 #[.agg #[.int .i64 f.source, .int .i64 f.trans, .int .i64 f.param]] w fun e w' => e = .returned (.bool (paramB f)) ∧ Step w w' := by
  obtain ⟨so, t, p⟩ := f
  by_cases h0 : t = 0
  · subst h0
    have HP : Hid (paramB ⟨so, 0, p⟩ = (p == 0)) := by show _ = _; simp [paramB]
    rw [HP.out]
    clear HP
    go_enter Tryd.func87, Tryd.ntmps87
    go_wp2_with fail
    go_ret
    exact ⟨rfl, Step.of⟩
  · have h0b : (t == 0) = false := by simpa using h0
    by_cases h12 : t = 1 ∨ t = 2
    · have HP : Hid (paramB ⟨so, t, p⟩ = (decide (1 ≤ p) && decide (p ≤ 1024))) := by show _ = _; simp only [paramB]; rw [if_neg h0, if_pos h12]
      rw [HP.out]
      clear HP
      rcases h12 with rfl | rfl <;> by_cases h1 : 1 ≤ p
      all_goals
        clear h0
        go_enter Tryd.func87, Tryd.ntmps87
        go_wp2_with fail
        go_ret
        exact ⟨ret_bool (by simp [h1]; try omega), Step.of⟩
    · have HP : Hid (paramB ⟨so, t, p⟩ = false) := by show _ = _; simp only [paramB]; rw [if_neg h0, if_neg h12]
      rw [HP.out]
      have h1b : (t == 1) = false := by simp; omega
      have h2b : (t == 2) = false := by simp; omega
      clear HP h12 h0
      go_enter Tryd.func87, Tryd.ntmps87
      go_wp2_with fail
      go_ret
      exact ⟨rfl, Step.of⟩
theorem byte_nat (v : Int) : ∀ m : Nat, m < 8 → (((v % 18446744073709551616).toNat / 256 ^ (7 - m) % 256 : Nat) : Int) = v / 2 ^ (56 - 8 * m) % 256
  | 0, _ => by simp only [Nat.reduceSub, Nat.reducePow, Nat.reduceMul]; omega
  | 1, _ => by simp only [Nat.reduceSub, Nat.reducePow, Nat.reduceMul]; omega
  | 2, _ => by simp only [Nat.reduceSub, Nat.reducePow, Nat.reduceMul]; omega
  | 3, _ => by simp only [Nat.reduceSub, Nat.reducePow, Nat.reduceMul]; omega
  | 4, _ => by simp only [Nat.reduceSub, Nat.reducePow, Nat.reduceMul]; omega
  | 5, _ => by simp only [Nat.reduceSub, Nat.reducePow, Nat.reduceMul]; omega
  | 6, _ => by simp only [Nat.reduceSub, Nat.reducePow, Nat.reduceMul]; omega
  | 7, _ => by simp only [Nat.reduceSub, Nat.reducePow, Nat.reduceMul]; omega
set_option maxRecDepth 10000 in
set_option maxHeartbeats 2000000 in
theorem rbytes_any (v : Val) (w : World) : Calls Tryd.prog 89 #[.agg #[.int .i64 v.kind, .int .i64 v.i, .bool v.b, .string v.s]] w fun e w' => e = .returned (.string (bytesT v)) ∧ Step w w' := by
  by_cases h1 : v.kind = 1
  · have h1b : (v.kind == 1) = true := by simpa using h1
    have hmk : ∀ w : World, (Instr.makeSlice 51 (.int .i64 8) (.int .i64 8)).run Tryd.prog w = .ok (.slice (some ⟨w.heap.size, 0, none⟩) 8 8) (w.alloc (.cells #[.int .u8 0, .int .u8 0, .int .u8 0, .int .u8 0, .int .u8 0, .int .u8 0, .int .u8 0, .int .u8 0] 5)) := fun _ => by kernel_rfl
    obtain ⟨W, hW⟩ : ∃ W, W = (w.alloc (.cells #[.int .i64 1, .int .i64 v.i, .bool v.b, .string v.s] 73)).alloc (.cells #[.int .u8 0, .int .u8 0, .int .u8 0, .int .u8 0, .int .u8 0, .int .u8 0, .int .u8 0, .int .u8 0] 5) := ⟨_, rfl⟩
    have SW : Step w W := by rw [hW]; exact Step.of
    have HB1 : Hid (Blk W (w.heap.size + 1) 5 (List.replicate 8 (.int .u8 0))) := by rw [hW]; exact Blk.new_at (by simp) (List.replicate 8 (.int .u8 0)) 5
    have HW := hide hW
    clear hW
    obtain ⟨X, hX⟩ : ∃ X : Nat, v.i % 18446744073709551616 = X := ⟨(v.i % 18446744073709551616).toNat, by omega⟩
    have hXl : X < 18446744073709551616 := by omega
    have hu : IntKind.u64.wrap v.i = X := by rw [IntKind.wrap_u64]; exact hX
    have HX := hide (byte_nat v.i)
    have HX : Hid (∀ m : Nat, m < 8 → ((X / 256 ^ (7 - m) % 256 : Nat) : Int) = v.i / 2 ^ (56 - 8 * m) % 256) := fun m hm => by
      have := HX.out m hm
      rw [show (v.i % 18446744073709551616).toNat = X by omega] at this
      exact this
    clear hX
    go_enter Tryd.func89, Tryd.ntmps89
    go_wp2_with fail
    rw [← HW.out]
    clear hmk hu
    go_loopw [4, 5] (fun x i wr => ∃ n y : Nat, n ≤ 8 ∧ i = .int .i64 ((n : Int) - 1) ∧ x = .int .u64 y ∧ y < 18446744073709551616 ∧ Hid (y = X / 256 ^ (8 - n)) ∧ Blk wr (w.heap.size + 1) 5 (List.replicate n (.int .u8 0) ++ ((List.range 8).map (byteF v.i)).drop n) ∧ Step w wr) (fun _ i _ => (intOf i + 1).toNat)
    case atStart => exact ⟨8, X, by omega, rfl, rfl, hXl, by show _ = _; simp, by rw [show ((List.range 8).map (byteF v.i)).drop 8 = [] by simp, List.append_nil]; exact HB1.out, SW⟩
    case round =>
      obtain ⟨n, y, hn, rfl, rfl, hy, HY, hb1, hst⟩ := hrel
      have HB1 := hide hb1
      clear hb1
      obtain ⟨wo, hwo⟩ : ∃ x : World, x = wr := ⟨_, rfl⟩
      rw [← hwo] at HB1 hst
      rw [← hwo]
      clear hwo
      have hzo := hst.size
      by_cases hn0 : n = 0
      · subst hn0
        have HB1 : Hid (Blk wo (w.heap.size + 1) 5 ((List.range 8).map (byteF v.i))) := hide (by simpa using HB1.out)
        have lp := HB1.out.lt
        have hcv := run_convert_bytes_back (P := Tryd.prog) wo 51 9 5 ⟨w.heap.size + 1, 0, none⟩ 8 ((List.range 8).map (byteT v.i)) Tryd.underlying51 Tryd.underlying5 Tryd.underlying9 (fun j hj => by
          have hj8 : j < 8 := by simpa using hj
          have := HB1.out.at0 j (byteF v.i j) (by simp [hj8])
          rw [Addr.add_lit]
          simpa [byteF] using this)
        rw [show ((List.range 8).map (byteT v.i)).length = 8 by simp] at hcv
        have HE : Hid (bytesT v = ⟨((List.range 8).map (byteT v.i)).toArray⟩) := by show _ = _; rw [bytesT, if_pos h1]; rfl
        generalize ((List.range 8).map (byteT v.i)).toArray = ar at hcv HE
        go_wp2_with fail
        go_ret
        exact ⟨by rw [HE.out]; rfl, Step.of⟩
      · obtain ⟨m, rfl⟩ : ∃ m, n = m + 1 := ⟨n - 1, by omega⟩
        have e1 : (((m + 1 : Nat) : Int) - 1) = (m : Int) := by omega
        rw [e1]
        have hm8 : (m : Int) < 8 := by omega
        have hm0 : (0 : Int) ≤ (m : Int) := by omega
        have lp := HB1.out.lt
        have f1 := HB1.out.free
        have c0 : wo.cell? ⟨w.heap.size + 1, m, none⟩ = some (.int .u8 0) := by
          have := HB1.out.at0 m (.int .u8 0) (by rw [List.getElem?_append_left (by simp), List.getElem?_replicate, if_pos (by omega)])
          simpa using this
        have HM := hide (HX.out m (by omega))
        have HQ : Hid (y = X / 256 ^ (7 - m)) := by show _ = _; rw [HY.out, show 8 - (m + 1) = 7 - m by omega]
        clear hn0 e1
        go_wp2_with fail
        go_roundw
        case rel =>
          refine ⟨m, y / 256, by omega, rfl, by go_num, by omega, ?_, ?_, ⟨hst.below.setCell (by simp) _⟩⟩
          · show _ = _
            rw [HQ.out, Nat.div_div_eq_div_mul, show 8 - m = (7 - m) + 1 by omega, Nat.pow_succ]
          · have h3 := HB1.out.set_ m (.int .u8 ((y : Int) % 256))
            have e2 : (Value.int .u8 ((y : Int) % 256)) = byteF v.i m := by
              rw [byteF_eq, ← HM.out, ← HQ.out]
              rfl
            rw [e2] at h3 ⊢
            have e3 : (List.replicate (m + 1) (Value.int .u8 0) ++ ((List.range 8).map (byteF v.i)).drop (m + 1)).set m (byteF v.i m) = List.replicate m (Value.int .u8 0) ++ ((List.range 8).map (byteF v.i)).drop m := by
              rw [List.replicate_succ', List.append_assoc, List.set_append_right _ _ (by simp), List.length_replicate, Nat.sub_self]
              rw [List.drop_eq_getElem_cons (i := m) (by simp; omega)]
              simp
            rw [← e3]
            exact h3
        case measure => simp [intOf]; try omega
  · have h1b : (v.kind == 1) = false := by simpa using h1
    by_cases h2 : v.kind = 2
    · have h2b : (v.kind == 2) = true := by simpa using h2
      cases hb : v.b with
      | true =>
        have HE : Hid (bytesT v = ⟨#[1]⟩) := by show _ = _; rw [bytesT, if_neg h1, if_pos h2, hb]; rfl
        clear h1 h2
        go_enter Tryd.func89, Tryd.ntmps89
        go_wp2_with fail
        go_ret
        exact ⟨by rw [HE.out]; rfl, Step.of⟩
      | false =>
        have HE : Hid (bytesT v = ⟨#[0]⟩) := by show _ = _; rw [bytesT, if_neg h1, if_pos h2, hb]; rfl
        clear h1 h2
        go_enter Tryd.func89, Tryd.ntmps89
        go_wp2_with fail
        go_ret
        exact ⟨by rw [HE.out]; rfl, Step.of⟩
    · have h2b : (v.kind == 2) = false := by simpa using h2
      have HE : Hid (bytesT v = v.s) := by show _ = _; rw [bytesT, if_neg h1, if_neg h2]
      clear h1 h2
      go_enter Tryd.func89, Tryd.ntmps89
      go_wp2_with fail
      go_ret
      exact ⟨by rw [HE.out]; rfl, Step.of⟩
end Go.Proofs.YtfojdjmeefglcaaDoor
