/-
  The document's own digits of a number, whatever its sign.
-/
import Derived.Test.YtoibfefalflooaaDoorJ8
import Derived.Test.YtoibfefalflooaaDoorDecl
namespace Go.Proofs.YtoibfefalflooaaDoor
open Go.RowKit

set_option maxRecDepth 10000 in
set_option maxHeartbeats 2000000 in
theorem decneg_any (X : Int) (n : Nat) (hX : X = -(n : Int)) (hn0 : 0 < n) (hn : n ≤ 9223372036854775808) (w : World) : Calls Tryd.prog 18 #[.int .i64 X] w fun e w' => e = .returned (.string (ofL (45 :: digs 20 n []))) ∧ Step w w' := by
  obtain ⟨R, hR⟩ : ∃ R, digs 20 n [] = R := ⟨_, rfl⟩
  have H0 := hide hR
  rw [hR]
  clear hR
  have hp0 : X < 0 := by omega
  have hp1 : -9223372036854775808 ≤ X := by omega
  have hp2 : -9223372036854775808 ≤ X + 1 := by omega
  obtain ⟨Y, hY⟩ : ∃ Y : Int, X + 1 = Y := ⟨_, rfl⟩
  have hY0 : -9223372036854775808 < Y := by omega
  have hcv1 : IntKind.u64.wrap X = X + 18446744073709551616 := by rw [IntKind.wrap_u64]; omega
  have hcv2 : IntKind.i64.wrap (-Y) = -Y := by rw [IntKind.wrap_i64]; omega
  have hcv : IntKind.u64.wrap (-Y) = -Y := by rw [IntKind.wrap_u64]; omega
  obtain ⟨Z, hZ⟩ : ∃ Z : Int, -Y + 1 = Z := ⟨_, rfl⟩
  have hcv3 : IntKind.u64.wrap Z = Z := by rw [IntKind.wrap_u64]; omega
  have HZ : Hid (Z = (n : Int)) := by show _ = _; omega
  clear hX
  go_enter Tryd.func18, Tryd.ntmps18
  go_wp2
  clear hcv hcv1 hcv2 hcv3 hY hZ
  go_loopw [3, 4] (fun x v wr => ∃ (f m : Nat) (A : Option Addr) (c : Nat) (l : List UInt8), x = .int .u64 m ∧ v = .slice A l.length c ∧ m ≤ 9223372036854775808 ∧ m < 10 ^ f ∧ l.length + f ≤ 20 ∧ (f = 0 → l ≠ []) ∧ Own wr w.heap.size 5 1 (.slice A l.length c) (byteCells l) ∧ digs f m l = R ∧ Step w wr) (fun x v _ => (intOf x).toNat + (1 - lenV v))
  case atStart => exact ⟨20, n, none, 0, [], by rw [HZ.out], rfl, hn, by omega, by simp, by simp, Own.nil_ _ _ _ _, H0.out, Step.of⟩
  case round =>
    obtain ⟨f, m, A, c, l, rfl, rfl, hm, hmf, hlf, hf0, hown, hd, hst⟩ := hrel
    have HD := hide hd; clear hd
    have HF := hide hf0; clear hf0
    have HMF := hide hmf; clear hmf
    have HO := hide hown; clear hown
    have hz := hst.size
    by_cases hlast : m = 0 ∧ l ≠ []
    · obtain ⟨rfl, hl⟩ := hlast
      have hl0 : 0 < l.length := List.length_pos_iff.2 hl
      have hl1 : ((l.length : Int) == 0) = false := by simp; omega
      have HL : Hid (R = l) := by
        have := HD.out
        cases f with
        | zero => exact this.symm
        | succ f => rw [digs, if_pos ⟨rfl, hl⟩] at this; exact this.symm
      have HNew : Hid (Own (wr.alloc (.cells #[.int .u8 45] 5)) w.heap.size 5 1 (.slice (some ⟨wr.heap.size, 0, none⟩) 1 1) (byteCells [45])) :=
        Own.of_blk (Blk.new wr [.int .u8 45] 5) hz rfl (byte_fit _).len (Nat.le_refl _) (by decide) rfl rfl
      have HRd := hide ((HO.out.sl (byte_fit _).len).fut (w' := wr.alloc (.cells #[.int .u8 45] 5)))
      clear hl
      go_wp2_with (at_builtin; refine wpList_append_sl rfl (.tmp 32) (.tmp 33) 47 rfl eiByte (base := w.heap.size) (xs := byteCells [45]) rfl HNew.out (byte_fit _) (ys := byteCells l) rfl (by simp [byteCells]) HRd.out (byte_fit _) (by simp [byteCells]; omega) (by simp; omega) (N := 1 + l.length) (by simp [byteCells]) ?_; intro A2 c2 w2 hc1 hc2 hown2 hgr2 hbel2; have HG := hide hbel2; have hcv := bytes_conv (l := 45 :: l) (n := 1 + l.length) (c := c2) (Own.sl (l := byteCells (45 :: l)) hown2 (byte_fit _).len) (by rw [List.length_cons, Nat.add_comm]) (by omega); clear hown2 hbel2 hgr2)
      go_ret
      exact ⟨by rw [HL.out]; rfl, ⟨((fut w (wr.alloc _))).trans HG.out⟩⟩
    · obtain ⟨f, rfl⟩ : ∃ g, f = g + 1 := by
        cases f with
        | zero =>
          have := HMF.out
          simp at this
          exact absurd ⟨this, HF.out rfl⟩ hlast
        | succ g => exact ⟨g, rfl⟩
      have HS : Hid (digs f (m / 10) (UInt8.ofNat (48 + m % 10) :: l) = R) := by have := HD.out; rw [digs, if_neg hlast] at this; exact this
      obtain ⟨d, hd0, hd1⟩ : ∃ d : UInt8, d = UInt8.ofNat (48 + m % 10) ∧ (d.toNat : Int) = 48 + (m : Int) % 10 := ⟨_, rfl, by simp; omega⟩
      rw [← hd0] at HS
      have HD1 := hide hd1; have HD0 := hide hd0; clear hd1 hd0
      have hm10 : m / 10 < 10 ^ f := by have := HMF.out; rw [Nat.pow_succ] at this; omega
      have HM10 := hide hm10; clear hm10
      have HNew : Hid (Own (wr.alloc (.cells #[.int .u8 (d.toNat : Int)] 5)) w.heap.size 5 1 (.slice (some ⟨wr.heap.size, 0, none⟩) 1 1) (byteCells [d])) :=
        Own.of_blk (Blk.new wr [.int .u8 (d.toNat : Int)] 5) hz rfl (byte_fit _).len (Nat.le_refl _) (by decide) rfl rfl
      have HRd := hide ((HO.out.sl (byte_fit _).len).fut (w' := wr.alloc (.cells #[.int .u8 (d.toNat : Int)] 5)))
      have hwr0 : IntKind.u8.wrap (48 + (m : Int) % 10) = (d.toNat : Int) := by rw [HD1.out, IntKind.wrap_u8]; omega
      have hq : (m : Int) / 10 = ((m / 10 : Nat) : Int) := by omega
      have HQ := hide hq; clear hq
      rcases Nat.eq_zero_or_pos m with hm0 | hm0
      · have hl0 : l = [] := by
          cases l with
          | nil => rfl
          | cons x r => exact absurd ⟨hm0, by simp⟩ hlast
        clear hlast HNew HRd HQ HM10 HD1
        subst hm0 hl0
        have HS0 : Hid (digs f 0 [48] = R) := by
          have := HS.out
          rw [HD0.out] at this
          exact this
        have HN : Hid (Own (wr.alloc (.cells #[.int .u8 48] 5)) w.heap.size 5 1 (.slice (some ⟨wr.heap.size, 0, none⟩) 1 1) (byteCells [48])) :=
          Own.of_blk (Blk.new wr [.int .u8 48] 5) hz rfl (byte_fit _).len (Nat.le_refl _) (by decide) rfl rfl
        go_wp2_with (at_builtin; go_loud (refine wpList_append_sl rfl (.tmp 25) (.tmp 26) 47 rfl eiByte (base := w.heap.size) (xs := byteCells [48]) rfl HN.out (byte_fit _) (ys := []) rfl (by simp) SlAt.nil_ Fit.nil_ (by simp [byteCells]) (by simp; omega) (N := 1) (by simp [byteCells]) ?_; intro A2 c2 w2 hc1 hc2 hown2 hgr2 hbel2; have H2 := hide hown2; have HG := hide hbel2; clear hown2 hbel2 hgr2))
        go_roundw
        case rel =>
          refine ⟨f, 0, A2, c2, [48], by first | rfl | simp, rfl, by omega, Nat.pow_pos (by decide), by simp; omega, by simp, by simpa using H2.out, HS0.out, ⟨?_⟩⟩
          exact ((fut w (wr.alloc _))).trans HG.out
        case measure => simp [intOf, lenV]
      · clear hlast
        have hm1 : (0 : Int) < (m : Int) := by omega
        go_wp2_with (at_builtin; refine wpList_append_sl rfl (.tmp 25) (.tmp 26) 47 rfl eiByte (base := w.heap.size) (xs := byteCells [d]) rfl HNew.out (byte_fit _) (ys := byteCells l) rfl (by simp [byteCells]) HRd.out (byte_fit _) (by simp [byteCells]; omega) (by simp; omega) (N := 1 + l.length) (by simp [byteCells]) ?_; intro A2 c2 w2 hc1 hc2 hown2 hgr2 hbel2; have H2 := hide hown2; have HG := hide hbel2; clear hown2 hbel2 hgr2)
        go_roundw
        case rel =>
          refine ⟨f, m / 10, A2, c2, d :: l, by rw [← HQ.out], by rw [List.length_cons, Nat.add_comm], by omega, HM10.out, by simp; omega, by simp, ?_, HS.out, ⟨?_⟩⟩
          · have := H2.out
            rw [List.length_cons, Nat.add_comm]
            exact this
          · exact ((fut w (wr.alloc _))).trans HG.out
        case measure => simp [intOf, lenV]; omega
theorem digs_more : ∀ (f m : Nat) (acc : List UInt8), acc ≠ [] → m < 10 ^ f → digs f m acc = (if m = 0 then [] else Go.Lib.decDigits m) ++ acc
  | 0, m, acc, h, hm => by
    have : m = 0 := by simpa using hm
    subst this
    rfl
  | f + 1, m, acc, h, hm => by
    rw [digs]
    by_cases h0 : m = 0
    · rw [if_pos ⟨h0, h⟩, if_pos h0]; rfl
    · rw [if_neg (fun hh => h0 hh.1), if_neg h0, digs_more f _ _ (by simp) (by rw [Nat.pow_succ] at hm; omega)]
      have hdec : Go.Lib.decDigits m = if h : m < 10 then [UInt8.ofNat (48 + m)] else Go.Lib.decDigits (m / 10) ++ [UInt8.ofNat (48 + m % 10)] := by rw [Go.Lib.decDigits]
      rw [hdec]
      by_cases h10 : m < 10
      · rw [dif_pos h10, if_pos (by omega), Nat.mod_eq_of_lt h10]; rfl
      · rw [dif_neg h10, if_neg (by omega), List.append_assoc]; rfl
theorem decB_dec {v : Nat} (h : v < 10 ^ 19) : decB v = ofL (Go.Lib.decDigits v) := by
  unfold decB ofL
  congr 2
  rw [digs, if_neg (by simp), digs_more 19 _ _ (by simp) (by omega)]
  by_cases h10 : v < 10
  · rw [if_pos (by omega), Go.Lib.decDigits, dif_pos h10, Nat.mod_eq_of_lt h10]; rfl
  · rw [if_neg (by omega)]
    conv => rhs; rw [Go.Lib.decDigits, dif_neg h10]
/-- A number's digits, the document's way, are the library's. -/
theorem dec_any (x : Int) (h0 : -9223372036854775808 ≤ x) (h1 : x ≤ 9223372036854775807) (w : World) : Calls Tryd.prog 18 #[.int .i64 x] w fun e w' => e = .returned (.string (ofL (Go.Lib.itoa x))) ∧ Step w w' := by
  unfold Go.Lib.itoa
  by_cases hx : x < 0
  · rw [if_pos hx]
    have h := decneg_any x x.natAbs (by omega) (by omega) (by omega) w
    have hd := decB_dec (v := x.natAbs) (by omega)
    unfold decB at hd
    have hd2 : digs 20 x.natAbs [] = Go.Lib.decDigits x.natAbs := by
      have := congrArg (fun b : ByteArray => b.data.toList) hd
      simpa [ofL] using this
    rw [hd2] at h
    exact h
  · rw [if_neg hx]
    obtain ⟨n, rfl⟩ : ∃ n : Nat, x = n := ⟨x.toNat, by omega⟩
    have h := decimal_any n (by omega) w
    rw [decB_dec (by omega)] at h
    rw [Int.toNat_natCast]
    exact h
end Go.Proofs.YtoibfefalflooaaDoor
