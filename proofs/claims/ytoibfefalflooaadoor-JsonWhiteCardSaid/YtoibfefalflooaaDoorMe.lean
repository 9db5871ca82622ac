/-
  The law JsonWhite.
-/
import Derived.Test.YtoibfefalflooaaDoorJ6
import Derived.Test.YtoibfefalflooaaDoorMx
namespace Go.Proofs.YtoibfefalflooaaDoor
open Go.RowKit

def wb (m : Nat) : UInt8 := match m with | 0 => 32 | 1 => 9 | 2 => 10 | _ => 13
def omP (picks : Int) (i : Nat) : UInt8 × UInt8 := (wb (wrap64 (picks + (i : Int)) % 4).toNat, wb (wrap64 (wrap64 (picks + (i : Int)) + 1) % 4).toNat)
theorem wb_white (m : Nat) : isW (wb m).toNat = true := by
  unfold wb
  split <;> decide
theorem omP_whites (picks : Int) : Whites (omP picks) := fun _ => ⟨wb_white _, wb_white _⟩
theorem i64_and3 (n : Int) : bits .and .i64 n 3 = n % 4 := by
  have h3 : (BitVec.ofInt 64 3).toNat = 2 ^ 2 - 1 := by decide
  have key : (BitVec.ofInt 64 n &&& BitVec.ofInt 64 3).toNat = (n % ((2 ^ 64 : Nat) : Int)).toNat % 2 ^ 2 := by
    rw [BitVec.toNat_and, BitVec.toNat_ofInt, h3, Nat.and_two_pow_sub_one_eq_mod]
  show IntKind.i64.wrap ((BitVec.ofInt 64 n &&& BitVec.ofInt 64 3).toNat : Nat) = n % 4
  rw [key, IntKind.wrap_i64]
  omega
def wsL : List ByteArray := [⟨#[32]⟩, ⟨#[9]⟩, ⟨#[10]⟩, ⟨#[13]⟩, ⟨#[32, 10, 32]⟩]
theorem ws_at {m : Nat} (h : m < 4) : wsL[m]? = some (ofL [wb m]) := by
  match m, h with
  | 0, _ => rfl
  | 1, _ => rfl
  | 2, _ => rfl
  | 3, _ => rfl
theorem t_rue : (parseP ⟨#[116, 114, 32, 117, 101]⟩).2 = 300 := by kernel_rfl

set_option maxRecDepth 100000 in
set_option maxHeartbeats 16000000 in
theorem white_main (j : J) (k1 : Int) (b1 : Bool) (n1 : Int) (s1 : ByteArray) (A1 : Option Addr) (nl1 c1 : Nat) (AK1 : Option Addr) (nk1 cK1 : Nat) (picks : Int) (w : World) (htb : Tab w) (hj : Rdd w j k1 b1 n1 s1 A1 nl1 c1 AK1 nk1 cK1) (T0 : ByteArray) (hpp : printP j = (T0, 0)) (hT : T0.size ≤ 2000) :
    Calls Tryd.prog 9 #[.agg #[.int .i64 k1, .bool b1, .int .i64 n1, .string s1, .slice A1 nl1 c1, .slice AK1 nk1 cK1], .int .i64 picks] w fun e w' => e = .returned (.bool true) ∧ Step w w' := by
  have HTB := hide htb
  have AW : Hid (∀ w' (hf : Fut w w'), Calls Tryd.prog 14 #[] w' fun e w'' => e = .returned (.bool true) ∧ Step w' w'') := fun w' hf => awake3_any w' (Tab.fut htb)
  have HJ := hide hj
  have hfj := hj.fine
  have NM := hide num_any
  have h0 : (printP j).2 = 0 := by rw [hpp]
  obtain ⟨hb1, _⟩ := back_print hfj h0
  obtain ⟨oo, ho1, ho2⟩ := print_ok_inv h0
  have hTo : T0 = ofL oo := by rw [hpp] at ho2; injection ho2
  have hol : oo.length ≤ 2000 := by rw [hTo, ofL_size] at hT; exact hT
  have hwp := white_parse hfj ho1 hol (omP_whites picks)
  have hto : T0.data.toList = oo := by rw [hTo, ofL_list]
  rw [← hto] at hwp
  obtain ⟨R, hR⟩ : ∃ R, insW (omP picks) 0 false false T0.data.toList = R := ⟨_, rfl⟩
  have hRl : R.length ≤ 6000 := by have := (ins_len (omP picks) 0 false false T0.data.toList).2; rw [hR, hto] at this; omega
  rw [hR] at hwp
  rw [hpp] at hb1
  have HR := hide hR
  have PP : Hid (∀ w' (hf : Fut w w'), Calls Tryd.prog 15 #[.agg #[.int .i64 k1, .bool b1, .int .i64 n1, .string s1, .slice A1 nl1 c1, .slice AK1 nk1 cK1]] w' fun e w'' => e = .returned (.tuple #[.string T0, .int .i64 0]) ∧ Step w' w'') := fun w' hf => by
    have h := print_rdd w HJ.out w' (Tab.fut HTB.out)
    rw [hpp] at h
    exact h
  have P1 := fun w' => parse_rdd T0 w' (by omega)
  rw [hb1] at P1
  have P1 : Hid (∀ w', Calls Tryd.prog 10 #[.string T0] w' fun e w'' => (∃ (k2 : Int) (b2 : Bool) (n2 : Int) (s2 : ByteArray) (A2 : Option Addr) (nl2 c2 : Nat) (AK2 : Option Addr) (nk2 cK2 : Nat), e = .returned (.tuple #[.agg #[.int .i64 k2, .bool b2, .int .i64 n2, .string s2, .slice A2 nl2 c2, .slice AK2 nk2 cK2], .int .i64 0]) ∧ Rdd w'' (norm j) k2 b2 n2 s2 A2 nl2 c2 AK2 nk2 cK2) ∧ Step w' w'') := P1
  have P2 := fun w' => parse_rdd (ofL R) w' (by rw [ofL_size]; omega)
  rw [hwp] at P2
  have P2 : Hid (∀ w', Calls Tryd.prog 10 #[.string (ofL R)] w' fun e w'' => (∃ (k3 : Int) (b3 : Bool) (n3 : Int) (s3 : ByteArray) (A3 : Option Addr) (nl3 c3 : Nat) (AK3 : Option Addr) (nk3 cK3 : Nat), e = .returned (.tuple #[.agg #[.int .i64 k3, .bool b3, .int .i64 n3, .string s3, .slice A3 nl3 c3, .slice AK3 nk3 cK3], .int .i64 0]) ∧ Rdd w'' (norm j) k3 b3 n3 s3 A3 nl3 c3 AK3 nk3 cK3) ∧ Step w' w'') := P2
  have P3 : Hid (∀ w', Calls Tryd.prog 10 #[.string ⟨#[116, 114, 32, 117, 101]⟩] w' fun e w'' => (∃ (k4 : Int) (b4 : Bool) (n4 : Int) (s4 : ByteArray) (A4 : Option Addr) (nl4 c4 : Nat) (AK4 : Option Addr) (nk4 cK4 : Nat), e = .returned (.tuple #[.agg #[.int .i64 k4, .bool b4, .int .i64 n4, .string s4, .slice A4 nl4 c4, .slice AK4 nk4 cK4], .int .i64 300])) ∧ Step w' w'') := fun w' => by
    have h := parse_rdd ⟨#[116, 114, 32, 117, 101]⟩ w' (by decide)
    rw [t_rue] at h
    exact h.mono fun e w'' hh => by
      obtain ⟨⟨k4, b4, n4, s4, A4, nl4, c4, AK4, nk4, cK4, h1, h2⟩, h3⟩ := hh
      exact ⟨⟨k4, b4, n4, s4, A4, nl4, c4, AK4, nk4, cK4, h1⟩, h3⟩
  have hTl : (T0.size : Int) ≤ 2000 := by omega
  have hTn : ¬ (T0.size : Int) > 2000 := by omega
  clear htb hj hfj h0 hb1 ho1 ho2 hTo hol hwp hto hR hpp
  go_enter Tryd.func9, Tryd.ntmps9
  obtain ⟨W1, hW1⟩ : ∃ W : World, W = w.alloc (.cells #[.int .i64 k1, .bool b1, .int .i64 n1, .string s1, .slice A1 nl1 c1, .slice AK1 nk1 cK1] 25) := ⟨_, rfl⟩
  have HB1 : Hid (Blk W1 w.heap.size 25 [.int .i64 k1, .bool b1, .int .i64 n1, .string s1, .slice A1 nl1 c1, .slice AK1 nk1 cK1]) := by rw [hW1]; exact Blk.new w _ 25
  have SW1 : Step w W1 := by rw [hW1]; exact Step.of
  go_upto_region 1 with fail
  rw [← hW1]
  clear hW1
  go_upto_region 3 with (go_at_call 14; (with_reducible refine (AW.out _ inferInstance).mono ?_); rintro e wa ⟨rfl, hsa⟩)
  obtain ⟨x0, x1, x2, x3, x4, x5⟩ := At.z6 (HB1.out.fut (w' := wa)).at0
  have lx := (HB1.out.fut (w' := wa)).lt
  go_upto_region 4 with (go_at_call 15; (with_reducible refine (PP.out _ inferInstance).mono ?_); rintro e w2 ⟨rfl, hs2⟩; clear x0 x1 x2 x3 x4 x5 lx)
  go_upto_region 7 with (go_at_call 13; (with_reducible refine (NM.out _ _).mono ?_); rintro e wn ⟨rfl, rfl⟩)
  obtain ⟨w2, rfl⟩ : ∃ x : World, x = wn := ⟨_, rfl⟩
  obtain ⟨W, hW⟩ : ∃ W : World, W = w2.alloc (.cells #[.string ⟨#[32]⟩, .string ⟨#[9]⟩, .string ⟨#[10]⟩, .string ⟨#[13]⟩, .string ⟨#[32, 10, 32]⟩] 9) := ⟨_, rfl⟩
  have hsl : SlAt W W.heap.size 1 (some ⟨w2.heap.size, 0, none⟩) (strCells wsL) := by rw [hW]; exact SlAt.new (w := w2) (size := 1) (l := strCells wsL) (cs := [.string ⟨#[32]⟩, .string ⟨#[9]⟩, .string ⟨#[10]⟩, .string ⟨#[13]⟩, .string ⟨#[32, 10, 32]⟩]) (t := 9) rfl (keys_fit _).len
  have SW : Step w2 W := by rw [hW]; exact Step.of
  have HSL := hide hsl
  have hbg : w2.heap.size < W.heap.size := by rw [hW]; simp
  rw [← hW]
  obtain ⟨bg, hbgE⟩ : ∃ bg, w2.heap.size = bg := ⟨_, rfl⟩
  rw [hbgE] at HSL hbg
  rw [hbgE]
  clear hW hsl hbgE
  obtain ⟨B, hB⟩ : ∃ B, W.heap.size = B := ⟨_, rfl⟩
  have HBB := hide hB
  have hbgB : bg < B := by omega
  clear hB
  go_wp2_with fail
  go_loopw [8, 9, 10, 11] (fun v8 v9 v10 v11 wr => ∃ (k n c : Nat) (A : Option Addr) (out : List UInt8) (wi sk : Bool), k ≤ T0.size ∧ v8 = .slice A n c ∧ v9 = .bool wi ∧ v10 = .bool sk ∧ v11 = .int .i64 k ∧ Hid (out.length = n) ∧ n ≤ 3 * k ∧ Hid (out ++ insW (omP picks) k wi sk (T0.data.toList.drop k) = R) ∧ Own wr B 5 1 (.slice A n c) (byteCells out) ∧ Below B W wr) (fun _ _ _ v11 _ => T0.size - (intOf v11).toNat)
  case atStart => exact ⟨0, 0, 0, none, [], false, false, Nat.zero_le _, rfl, rfl, rfl, rfl, rfl, Nat.zero_le _, HR.out, Own.nil_ _ _ _ _, Below.refl _ _⟩
  case round =>
    obtain ⟨k, n, c, A, out, wi, sk, hk, rfl, rfl, rfl, rfl, HL, hn, HX, hown, hbel⟩ := hrel
    have HO := hide hown; have HM := hide hbel
    clear hown hbel HR
    obtain ⟨wo, rfl⟩ : ∃ x : World, x = wr := ⟨_, rfl⟩
    have hBo : B ≤ wo.heap.size := by have := HM.out.size; have := HBB.out; omega
    by_cases hlt : k < T0.size
    · have hkl : (k : Int) < (T0.size : Int) := by omega
      have hk0 : (0 : Int) ≤ (k : Int) := by omega
      have hkn : (k : Int) + 1 ≤ 3000 := by omega
      have hcb := T0[k].toNat_lt
      have hdr : T0.data.toList.drop k = T0[k] :: T0.data.toList.drop (k + 1) := by rw [List.drop_eq_getElem_cons (by exact hlt)]; rfl
      have HX2 := HX.out
      rw [hdr] at HX2
      clear HX hdr
      obtain ⟨q, hq⟩ : ∃ q, T0[k] = q := ⟨_, rfl⟩
      have HQ : Hid (T0[k] = q) := hq
      obtain ⟨x, hx⟩ : ∃ x : Int, (T0[k].toNat : Int) = x := ⟨_, rfl⟩
      have hqx : (q.toNat : Int) = x := by rw [← hq]; exact hx
      rw [hq] at HX2
      have hx0 : 0 ≤ x := by omega
      have hx1 : x < 256 := by omega
      have HNewA : ∀ w' : World, Hid (SlAt (w'.alloc (.cells #[.int .u8 x] 5)) (w'.alloc (.cells #[.int .u8 x] 5)).heap.size 1 (some ⟨w'.heap.size, 0, none⟩) (byteCells [q])) := fun w' => by
        show SlAt _ _ _ _ _
        have := SlAt.new (w := w') (size := 1) (l := byteCells [q]) (cs := [.int .u8 x]) (t := 5) (by rw [← hqx]; rfl) (byte_fit _).len
        exact this
      have HNEW := hide HNewA
      clear HNewA hq hcb
      cases wi with
      | false =>
        by_cases hS : isS q.toNat = true
        · have hS2 := hS
          simp only [isS, Bool.or_eq_true, beq_iff_eq] at hS2
          have hw3 : ∀ m : Nat, m < 4 → ∀ w', Below B W w' → w'.cell? ⟨bg, m, none⟩ = some (.string (ofL [wb m])) := fun m hm w' hb => by
            obtain ⟨b_, o_, he_, _, hc_⟩ := HSL.out (by decide)
            injection he_ with he_; injection he_ with e1 e2; subst e1 e2
            have h1 := At.l1 (hc_ m [.string (ofL [wb m])] (by simp [strCells, ws_at hm]))
            rw [Nat.mul_one, Nat.zero_add] at h1
            exact ((bcell hb).1 bg m hbgB).trans h1
          have HW3 := hide hw3
          obtain ⟨X, hX⟩ : ∃ X : Int, wrap64 (picks + (k : Int)) = X := ⟨_, rfl⟩
          obtain ⟨Y, hY⟩ : ∃ Y : Int, wrap64 (X + 1) = Y := ⟨_, rfl⟩
          obtain ⟨m1, hm1, hm14⟩ : ∃ m : Nat, bits .and .i64 X 3 = (m : Int) ∧ m < 4 := ⟨(X % 4).toNat, by rw [i64_and3]; omega, by omega⟩
          obtain ⟨m2, hm2, hm24⟩ : ∃ m : Nat, bits .and .i64 Y 3 = (m : Int) ∧ m < 4 := ⟨(Y % 4).toNat, by rw [i64_and3]; omega, by omega⟩
          have HOM : Hid (omP picks k = (wb m1, wb m2)) := by
            show _ = _
            rw [omP, hX, hY]
            rw [i64_and3] at hm1 hm2
            rw [show (X % 4).toNat = m1 by omega, show (Y % 4).toNat = m2 by omega]
          have hm1i : (m1 : Int) < 5 := by omega
          have hm2i : (m2 : Int) < 5 := by omega
          have HXN : Hid ((((out ++ [wb m1]) ++ [q]) ++ [wb m2]) ++ insW (omP picks) (k + 1) false sk (T0.data.toList.drop (k + 1)) = R) := by
            show _ = _
            rw [← HX2, ins_sign hS, HOM.out]
            simp [List.append_assoc]
          have hcl := HW3.out m1 hm14 wo HM.out
          clear hw3 HX2 hS
          rcases hS2 with ((((hS2 | hS2) | hS2) | hS2) | hS2) | hS2
          · skip
            rw [hS2] at hqx
            obtain rfl : x = 44 := by rw [← hqx]; rfl
            clear hqx
            clear hS2
            go_upto_region 15 with (at_builtin; refine wpList_append_str rfl (.tmp 70) (.tmp 77) rfl (base := B) (l := out) rfl HO.out (s := ofL [wb m1]) rfl (by rw [ofL_size, HL.out]; simp only [List.length_cons, List.length_nil]; omega) hBo (N := n + 1) (by rw [ofL_size, HL.out]; rfl) ?_; intro A5 c5 w5 ho5 hg5 hb5; have HO5 : Hid (Own w5 B 5 1 (.slice A5 (n + 1) c5) (byteCells (out ++ [wb m1]))) := (by rw [ofL_list] at ho5; exact ho5); have HM5 : Hid (Below B W w5) := HM.out.trans hb5; have hB5 := Nat.le_trans hBo hb5.size; clear ho5 hg5 hb5 hcl)
            have HL5 : Hid ((out ++ [wb m1]).length = n + 1) := by show _ = _; rw [List.length_append, HL.out]; rfl
            go_upto_region 16 with (at_builtin; refine wpList_append_sl rfl (.tmp 79) (.tmp 81) 47 rfl eiByte (base := B) (xs := byteCells (out ++ [wb m1])) rfl (HO5.out.fut (w' := w5.alloc (.cells #[.int .u8 44] 5))) (byte_fit _) (ys := byteCells [q]) rfl rfl (HNEW.out w5).out (byte_fit _) (by simp only [byteCells, List.length_map, HL5.out, List.length_cons, List.length_nil]; omega) (Nat.le_trans hB5 (fut w5 (w5.alloc (.cells #[.int .u8 44] 5))).size) (N := n + 1 + 1) (by simp only [byteCells, List.length_map, HL5.out, List.length_cons, List.length_nil]) ?_; intro A7 c7 w7 hq1 hq2 ho7 hg7 hb7; have HO7 : Hid (Own w7 B 5 1 (.slice A7 (n + 1 + 1) c7) (byteCells ((out ++ [wb m1]) ++ [q]))) := (by show Own _ _ _ _ _ _; unfold byteCells at ho7 ⊢; rw [List.map_append]; exact ho7); have HM7 : Hid (Below B W w7) := (HM5.out.trans ((fut w5 (w5.alloc (.cells #[.int .u8 44] 5))).mono hB5)).trans hb7; have hB7 := Nat.le_trans (Nat.le_trans hB5 (fut w5 (w5.alloc (.cells #[.int .u8 44] 5))).size) hb7.size; clear hq1 hq2 ho7 hg7 hb7)
            have HL7 : Hid (((out ++ [wb m1]) ++ [q]).length = n + 1 + 1) := by show _ = _; rw [List.length_append, HL5.out]; rfl
            have hcl := HW3.out m2 hm24 w7 HM7.out
            go_wp2_with (at_builtin; refine wpList_append_str rfl (.tmp 83) (.tmp 91) rfl (base := B) (l := (out ++ [wb m1]) ++ [q]) rfl HO7.out (s := ofL [wb m2]) rfl (by rw [ofL_size, HL7.out]; simp only [List.length_cons, List.length_nil]; omega) hB7 (N := n + 1 + 1 + 1) (by rw [ofL_size, HL7.out]; rfl) ?_; intro A9 c9 w9 ho9 hg9 hb9; have HO9 : Hid (Own w9 B 5 1 (.slice A9 (n + 1 + 1 + 1) c9) (byteCells (((out ++ [wb m1]) ++ [q]) ++ [wb m2]))) := (by rw [ofL_list] at ho9; exact ho9); have HM9 : Hid (Below B W w9) := HM7.out.trans hb9; clear ho9 hg9 hb9 hcl)
            go_roundw
            case rel => exact ⟨k + 1, n + 1 + 1 + 1, c9, A9, ((out ++ [wb m1]) ++ [q]) ++ [wb m2], false, sk, by omega, rfl, rfl, rfl, by go_num, by show _ = _; rw [List.length_append, HL7.out]; rfl, by omega, HXN, HO9.out, HM9.out⟩
            case measure => simp [intOf]; omega
          · skip
            rw [hS2] at hqx
            obtain rfl : x = 58 := by rw [← hqx]; rfl
            clear hqx
            clear hS2
            go_upto_region 15 with (at_builtin; refine wpList_append_str rfl (.tmp 70) (.tmp 77) rfl (base := B) (l := out) rfl HO.out (s := ofL [wb m1]) rfl (by rw [ofL_size, HL.out]; simp only [List.length_cons, List.length_nil]; omega) hBo (N := n + 1) (by rw [ofL_size, HL.out]; rfl) ?_; intro A5 c5 w5 ho5 hg5 hb5; have HO5 : Hid (Own w5 B 5 1 (.slice A5 (n + 1) c5) (byteCells (out ++ [wb m1]))) := (by rw [ofL_list] at ho5; exact ho5); have HM5 : Hid (Below B W w5) := HM.out.trans hb5; have hB5 := Nat.le_trans hBo hb5.size; clear ho5 hg5 hb5 hcl)
            have HL5 : Hid ((out ++ [wb m1]).length = n + 1) := by show _ = _; rw [List.length_append, HL.out]; rfl
            go_upto_region 16 with (at_builtin; refine wpList_append_sl rfl (.tmp 79) (.tmp 81) 47 rfl eiByte (base := B) (xs := byteCells (out ++ [wb m1])) rfl (HO5.out.fut (w' := w5.alloc (.cells #[.int .u8 58] 5))) (byte_fit _) (ys := byteCells [q]) rfl rfl (HNEW.out w5).out (byte_fit _) (by simp only [byteCells, List.length_map, HL5.out, List.length_cons, List.length_nil]; omega) (Nat.le_trans hB5 (fut w5 (w5.alloc (.cells #[.int .u8 58] 5))).size) (N := n + 1 + 1) (by simp only [byteCells, List.length_map, HL5.out, List.length_cons, List.length_nil]) ?_; intro A7 c7 w7 hq1 hq2 ho7 hg7 hb7; have HO7 : Hid (Own w7 B 5 1 (.slice A7 (n + 1 + 1) c7) (byteCells ((out ++ [wb m1]) ++ [q]))) := (by show Own _ _ _ _ _ _; unfold byteCells at ho7 ⊢; rw [List.map_append]; exact ho7); have HM7 : Hid (Below B W w7) := (HM5.out.trans ((fut w5 (w5.alloc (.cells #[.int .u8 58] 5))).mono hB5)).trans hb7; have hB7 := Nat.le_trans (Nat.le_trans hB5 (fut w5 (w5.alloc (.cells #[.int .u8 58] 5))).size) hb7.size; clear hq1 hq2 ho7 hg7 hb7)
            have HL7 : Hid (((out ++ [wb m1]) ++ [q]).length = n + 1 + 1) := by show _ = _; rw [List.length_append, HL5.out]; rfl
            have hcl := HW3.out m2 hm24 w7 HM7.out
            go_wp2_with (at_builtin; refine wpList_append_str rfl (.tmp 83) (.tmp 91) rfl (base := B) (l := (out ++ [wb m1]) ++ [q]) rfl HO7.out (s := ofL [wb m2]) rfl (by rw [ofL_size, HL7.out]; simp only [List.length_cons, List.length_nil]; omega) hB7 (N := n + 1 + 1 + 1) (by rw [ofL_size, HL7.out]; rfl) ?_; intro A9 c9 w9 ho9 hg9 hb9; have HO9 : Hid (Own w9 B 5 1 (.slice A9 (n + 1 + 1 + 1) c9) (byteCells (((out ++ [wb m1]) ++ [q]) ++ [wb m2]))) := (by rw [ofL_list] at ho9; exact ho9); have HM9 : Hid (Below B W w9) := HM7.out.trans hb9; clear ho9 hg9 hb9 hcl)
            go_roundw
            case rel => exact ⟨k + 1, n + 1 + 1 + 1, c9, A9, ((out ++ [wb m1]) ++ [q]) ++ [wb m2], false, sk, by omega, rfl, rfl, rfl, by go_num, by show _ = _; rw [List.length_append, HL7.out]; rfl, by omega, HXN, HO9.out, HM9.out⟩
            case measure => simp [intOf]; omega
          · skip
            rw [hS2] at hqx
            obtain rfl : x = 91 := by rw [← hqx]; rfl
            clear hqx
            clear hS2
            go_upto_region 15 with (at_builtin; refine wpList_append_str rfl (.tmp 70) (.tmp 77) rfl (base := B) (l := out) rfl HO.out (s := ofL [wb m1]) rfl (by rw [ofL_size, HL.out]; simp only [List.length_cons, List.length_nil]; omega) hBo (N := n + 1) (by rw [ofL_size, HL.out]; rfl) ?_; intro A5 c5 w5 ho5 hg5 hb5; have HO5 : Hid (Own w5 B 5 1 (.slice A5 (n + 1) c5) (byteCells (out ++ [wb m1]))) := (by rw [ofL_list] at ho5; exact ho5); have HM5 : Hid (Below B W w5) := HM.out.trans hb5; have hB5 := Nat.le_trans hBo hb5.size; clear ho5 hg5 hb5 hcl)
            have HL5 : Hid ((out ++ [wb m1]).length = n + 1) := by show _ = _; rw [List.length_append, HL.out]; rfl
            go_upto_region 16 with (at_builtin; refine wpList_append_sl rfl (.tmp 79) (.tmp 81) 47 rfl eiByte (base := B) (xs := byteCells (out ++ [wb m1])) rfl (HO5.out.fut (w' := w5.alloc (.cells #[.int .u8 91] 5))) (byte_fit _) (ys := byteCells [q]) rfl rfl (HNEW.out w5).out (byte_fit _) (by simp only [byteCells, List.length_map, HL5.out, List.length_cons, List.length_nil]; omega) (Nat.le_trans hB5 (fut w5 (w5.alloc (.cells #[.int .u8 91] 5))).size) (N := n + 1 + 1) (by simp only [byteCells, List.length_map, HL5.out, List.length_cons, List.length_nil]) ?_; intro A7 c7 w7 hq1 hq2 ho7 hg7 hb7; have HO7 : Hid (Own w7 B 5 1 (.slice A7 (n + 1 + 1) c7) (byteCells ((out ++ [wb m1]) ++ [q]))) := (by show Own _ _ _ _ _ _; unfold byteCells at ho7 ⊢; rw [List.map_append]; exact ho7); have HM7 : Hid (Below B W w7) := (HM5.out.trans ((fut w5 (w5.alloc (.cells #[.int .u8 91] 5))).mono hB5)).trans hb7; have hB7 := Nat.le_trans (Nat.le_trans hB5 (fut w5 (w5.alloc (.cells #[.int .u8 91] 5))).size) hb7.size; clear hq1 hq2 ho7 hg7 hb7)
            have HL7 : Hid (((out ++ [wb m1]) ++ [q]).length = n + 1 + 1) := by show _ = _; rw [List.length_append, HL5.out]; rfl
            have hcl := HW3.out m2 hm24 w7 HM7.out
            go_wp2_with (at_builtin; refine wpList_append_str rfl (.tmp 83) (.tmp 91) rfl (base := B) (l := (out ++ [wb m1]) ++ [q]) rfl HO7.out (s := ofL [wb m2]) rfl (by rw [ofL_size, HL7.out]; simp only [List.length_cons, List.length_nil]; omega) hB7 (N := n + 1 + 1 + 1) (by rw [ofL_size, HL7.out]; rfl) ?_; intro A9 c9 w9 ho9 hg9 hb9; have HO9 : Hid (Own w9 B 5 1 (.slice A9 (n + 1 + 1 + 1) c9) (byteCells (((out ++ [wb m1]) ++ [q]) ++ [wb m2]))) := (by rw [ofL_list] at ho9; exact ho9); have HM9 : Hid (Below B W w9) := HM7.out.trans hb9; clear ho9 hg9 hb9 hcl)
            go_roundw
            case rel => exact ⟨k + 1, n + 1 + 1 + 1, c9, A9, ((out ++ [wb m1]) ++ [q]) ++ [wb m2], false, sk, by omega, rfl, rfl, rfl, by go_num, by show _ = _; rw [List.length_append, HL7.out]; rfl, by omega, HXN, HO9.out, HM9.out⟩
            case measure => simp [intOf]; omega
          · skip
            rw [hS2] at hqx
            obtain rfl : x = 93 := by rw [← hqx]; rfl
            clear hqx
            clear hS2
            go_upto_region 15 with (at_builtin; refine wpList_append_str rfl (.tmp 70) (.tmp 77) rfl (base := B) (l := out) rfl HO.out (s := ofL [wb m1]) rfl (by rw [ofL_size, HL.out]; simp only [List.length_cons, List.length_nil]; omega) hBo (N := n + 1) (by rw [ofL_size, HL.out]; rfl) ?_; intro A5 c5 w5 ho5 hg5 hb5; have HO5 : Hid (Own w5 B 5 1 (.slice A5 (n + 1) c5) (byteCells (out ++ [wb m1]))) := (by rw [ofL_list] at ho5; exact ho5); have HM5 : Hid (Below B W w5) := HM.out.trans hb5; have hB5 := Nat.le_trans hBo hb5.size; clear ho5 hg5 hb5 hcl)
            have HL5 : Hid ((out ++ [wb m1]).length = n + 1) := by show _ = _; rw [List.length_append, HL.out]; rfl
            go_upto_region 16 with (at_builtin; refine wpList_append_sl rfl (.tmp 79) (.tmp 81) 47 rfl eiByte (base := B) (xs := byteCells (out ++ [wb m1])) rfl (HO5.out.fut (w' := w5.alloc (.cells #[.int .u8 93] 5))) (byte_fit _) (ys := byteCells [q]) rfl rfl (HNEW.out w5).out (byte_fit _) (by simp only [byteCells, List.length_map, HL5.out, List.length_cons, List.length_nil]; omega) (Nat.le_trans hB5 (fut w5 (w5.alloc (.cells #[.int .u8 93] 5))).size) (N := n + 1 + 1) (by simp only [byteCells, List.length_map, HL5.out, List.length_cons, List.length_nil]) ?_; intro A7 c7 w7 hq1 hq2 ho7 hg7 hb7; have HO7 : Hid (Own w7 B 5 1 (.slice A7 (n + 1 + 1) c7) (byteCells ((out ++ [wb m1]) ++ [q]))) := (by show Own _ _ _ _ _ _; unfold byteCells at ho7 ⊢; rw [List.map_append]; exact ho7); have HM7 : Hid (Below B W w7) := (HM5.out.trans ((fut w5 (w5.alloc (.cells #[.int .u8 93] 5))).mono hB5)).trans hb7; have hB7 := Nat.le_trans (Nat.le_trans hB5 (fut w5 (w5.alloc (.cells #[.int .u8 93] 5))).size) hb7.size; clear hq1 hq2 ho7 hg7 hb7)
            have HL7 : Hid (((out ++ [wb m1]) ++ [q]).length = n + 1 + 1) := by show _ = _; rw [List.length_append, HL5.out]; rfl
            have hcl := HW3.out m2 hm24 w7 HM7.out
            go_wp2_with (at_builtin; refine wpList_append_str rfl (.tmp 83) (.tmp 91) rfl (base := B) (l := (out ++ [wb m1]) ++ [q]) rfl HO7.out (s := ofL [wb m2]) rfl (by rw [ofL_size, HL7.out]; simp only [List.length_cons, List.length_nil]; omega) hB7 (N := n + 1 + 1 + 1) (by rw [ofL_size, HL7.out]; rfl) ?_; intro A9 c9 w9 ho9 hg9 hb9; have HO9 : Hid (Own w9 B 5 1 (.slice A9 (n + 1 + 1 + 1) c9) (byteCells (((out ++ [wb m1]) ++ [q]) ++ [wb m2]))) := (by rw [ofL_list] at ho9; exact ho9); have HM9 : Hid (Below B W w9) := HM7.out.trans hb9; clear ho9 hg9 hb9 hcl)
            go_roundw
            case rel => exact ⟨k + 1, n + 1 + 1 + 1, c9, A9, ((out ++ [wb m1]) ++ [q]) ++ [wb m2], false, sk, by omega, rfl, rfl, rfl, by go_num, by show _ = _; rw [List.length_append, HL7.out]; rfl, by omega, HXN, HO9.out, HM9.out⟩
            case measure => simp [intOf]; omega
          · skip
            rw [hS2] at hqx
            obtain rfl : x = 123 := by rw [← hqx]; rfl
            clear hqx
            clear hS2
            go_upto_region 15 with (at_builtin; refine wpList_append_str rfl (.tmp 70) (.tmp 77) rfl (base := B) (l := out) rfl HO.out (s := ofL [wb m1]) rfl (by rw [ofL_size, HL.out]; simp only [List.length_cons, List.length_nil]; omega) hBo (N := n + 1) (by rw [ofL_size, HL.out]; rfl) ?_; intro A5 c5 w5 ho5 hg5 hb5; have HO5 : Hid (Own w5 B 5 1 (.slice A5 (n + 1) c5) (byteCells (out ++ [wb m1]))) := (by rw [ofL_list] at ho5; exact ho5); have HM5 : Hid (Below B W w5) := HM.out.trans hb5; have hB5 := Nat.le_trans hBo hb5.size; clear ho5 hg5 hb5 hcl)
            have HL5 : Hid ((out ++ [wb m1]).length = n + 1) := by show _ = _; rw [List.length_append, HL.out]; rfl
            go_upto_region 16 with (at_builtin; refine wpList_append_sl rfl (.tmp 79) (.tmp 81) 47 rfl eiByte (base := B) (xs := byteCells (out ++ [wb m1])) rfl (HO5.out.fut (w' := w5.alloc (.cells #[.int .u8 123] 5))) (byte_fit _) (ys := byteCells [q]) rfl rfl (HNEW.out w5).out (byte_fit _) (by simp only [byteCells, List.length_map, HL5.out, List.length_cons, List.length_nil]; omega) (Nat.le_trans hB5 (fut w5 (w5.alloc (.cells #[.int .u8 123] 5))).size) (N := n + 1 + 1) (by simp only [byteCells, List.length_map, HL5.out, List.length_cons, List.length_nil]) ?_; intro A7 c7 w7 hq1 hq2 ho7 hg7 hb7; have HO7 : Hid (Own w7 B 5 1 (.slice A7 (n + 1 + 1) c7) (byteCells ((out ++ [wb m1]) ++ [q]))) := (by show Own _ _ _ _ _ _; unfold byteCells at ho7 ⊢; rw [List.map_append]; exact ho7); have HM7 : Hid (Below B W w7) := (HM5.out.trans ((fut w5 (w5.alloc (.cells #[.int .u8 123] 5))).mono hB5)).trans hb7; have hB7 := Nat.le_trans (Nat.le_trans hB5 (fut w5 (w5.alloc (.cells #[.int .u8 123] 5))).size) hb7.size; clear hq1 hq2 ho7 hg7 hb7)
            have HL7 : Hid (((out ++ [wb m1]) ++ [q]).length = n + 1 + 1) := by show _ = _; rw [List.length_append, HL5.out]; rfl
            have hcl := HW3.out m2 hm24 w7 HM7.out
            go_wp2_with (at_builtin; refine wpList_append_str rfl (.tmp 83) (.tmp 91) rfl (base := B) (l := (out ++ [wb m1]) ++ [q]) rfl HO7.out (s := ofL [wb m2]) rfl (by rw [ofL_size, HL7.out]; simp only [List.length_cons, List.length_nil]; omega) hB7 (N := n + 1 + 1 + 1) (by rw [ofL_size, HL7.out]; rfl) ?_; intro A9 c9 w9 ho9 hg9 hb9; have HO9 : Hid (Own w9 B 5 1 (.slice A9 (n + 1 + 1 + 1) c9) (byteCells (((out ++ [wb m1]) ++ [q]) ++ [wb m2]))) := (by rw [ofL_list] at ho9; exact ho9); have HM9 : Hid (Below B W w9) := HM7.out.trans hb9; clear ho9 hg9 hb9 hcl)
            go_roundw
            case rel => exact ⟨k + 1, n + 1 + 1 + 1, c9, A9, ((out ++ [wb m1]) ++ [q]) ++ [wb m2], false, sk, by omega, rfl, rfl, rfl, by go_num, by show _ = _; rw [List.length_append, HL7.out]; rfl, by omega, HXN, HO9.out, HM9.out⟩
            case measure => simp [intOf]; omega
          · skip
            rw [hS2] at hqx
            obtain rfl : x = 125 := by rw [← hqx]; rfl
            clear hqx
            clear hS2
            go_upto_region 15 with (at_builtin; refine wpList_append_str rfl (.tmp 70) (.tmp 77) rfl (base := B) (l := out) rfl HO.out (s := ofL [wb m1]) rfl (by rw [ofL_size, HL.out]; simp only [List.length_cons, List.length_nil]; omega) hBo (N := n + 1) (by rw [ofL_size, HL.out]; rfl) ?_; intro A5 c5 w5 ho5 hg5 hb5; have HO5 : Hid (Own w5 B 5 1 (.slice A5 (n + 1) c5) (byteCells (out ++ [wb m1]))) := (by rw [ofL_list] at ho5; exact ho5); have HM5 : Hid (Below B W w5) := HM.out.trans hb5; have hB5 := Nat.le_trans hBo hb5.size; clear ho5 hg5 hb5 hcl)
            have HL5 : Hid ((out ++ [wb m1]).length = n + 1) := by show _ = _; rw [List.length_append, HL.out]; rfl
            go_upto_region 16 with (at_builtin; refine wpList_append_sl rfl (.tmp 79) (.tmp 81) 47 rfl eiByte (base := B) (xs := byteCells (out ++ [wb m1])) rfl (HO5.out.fut (w' := w5.alloc (.cells #[.int .u8 125] 5))) (byte_fit _) (ys := byteCells [q]) rfl rfl (HNEW.out w5).out (byte_fit _) (by simp only [byteCells, List.length_map, HL5.out, List.length_cons, List.length_nil]; omega) (Nat.le_trans hB5 (fut w5 (w5.alloc (.cells #[.int .u8 125] 5))).size) (N := n + 1 + 1) (by simp only [byteCells, List.length_map, HL5.out, List.length_cons, List.length_nil]) ?_; intro A7 c7 w7 hq1 hq2 ho7 hg7 hb7; have HO7 : Hid (Own w7 B 5 1 (.slice A7 (n + 1 + 1) c7) (byteCells ((out ++ [wb m1]) ++ [q]))) := (by show Own _ _ _ _ _ _; unfold byteCells at ho7 ⊢; rw [List.map_append]; exact ho7); have HM7 : Hid (Below B W w7) := (HM5.out.trans ((fut w5 (w5.alloc (.cells #[.int .u8 125] 5))).mono hB5)).trans hb7; have hB7 := Nat.le_trans (Nat.le_trans hB5 (fut w5 (w5.alloc (.cells #[.int .u8 125] 5))).size) hb7.size; clear hq1 hq2 ho7 hg7 hb7)
            have HL7 : Hid (((out ++ [wb m1]) ++ [q]).length = n + 1 + 1) := by show _ = _; rw [List.length_append, HL5.out]; rfl
            have hcl := HW3.out m2 hm24 w7 HM7.out
            go_wp2_with (at_builtin; refine wpList_append_str rfl (.tmp 83) (.tmp 91) rfl (base := B) (l := (out ++ [wb m1]) ++ [q]) rfl HO7.out (s := ofL [wb m2]) rfl (by rw [ofL_size, HL7.out]; simp only [List.length_cons, List.length_nil]; omega) hB7 (N := n + 1 + 1 + 1) (by rw [ofL_size, HL7.out]; rfl) ?_; intro A9 c9 w9 ho9 hg9 hb9; have HO9 : Hid (Own w9 B 5 1 (.slice A9 (n + 1 + 1 + 1) c9) (byteCells (((out ++ [wb m1]) ++ [q]) ++ [wb m2]))) := (by rw [ofL_list] at ho9; exact ho9); have HM9 : Hid (Below B W w9) := HM7.out.trans hb9; clear ho9 hg9 hb9 hcl)
            go_roundw
            case rel => exact ⟨k + 1, n + 1 + 1 + 1, c9, A9, ((out ++ [wb m1]) ++ [q]) ++ [wb m2], false, sk, by omega, rfl, rfl, rfl, by go_num, by show _ = _; rw [List.length_append, HL7.out]; rfl, by omega, HXN, HO9.out, HM9.out⟩
            case measure => simp [intOf]; omega
        · have hS2 : isS q.toNat = false := by simpa using hS
          have hS3 := hS2
          simp only [isS, Bool.or_eq_false_iff, beq_eq_false_iff_ne] at hS3
          have e44 : (x == 44) = false := beq_eq_false_iff_ne.2 (by omega)
          have e58 : (x == 58) = false := beq_eq_false_iff_ne.2 (by omega)
          have e91 : (x == 91) = false := beq_eq_false_iff_ne.2 (by omega)
          have e93 : (x == 93) = false := beq_eq_false_iff_ne.2 (by omega)
          have e123 : (x == 123) = false := beq_eq_false_iff_ne.2 (by omega)
          have e125 : (x == 125) = false := beq_eq_false_iff_ne.2 (by omega)
          by_cases h34 : q.toNat = 34
          · have h34x : x = 34 := by omega
            subst h34x
            cases sk with
            | false =>
              have h1 : insW (omP picks) k false false (q :: T0.data.toList.drop (k + 1)) = q :: insW (omP picks) (k + 1) true false (T0.data.toList.drop (k + 1)) := by
                rw [show q = 34 from UInt8.toNat_inj.1 h34]; exact ins_open
              clear hS hS2 hS3 h34
              have HXN : Hid ((out ++ [q]) ++ insW (omP picks) (k + 1) true false (T0.data.toList.drop (k + 1)) = R) := by show _ = _; rw [← HX2, h1, List.append_assoc]; rfl
              clear HX2
              go_wp2_with (at_builtin; refine wpList_append_sl rfl (.tmp 93) (.tmp 95) 47 rfl eiByte (base := B) (xs := byteCells out) rfl (HO.out.fut (w' := wo.alloc (.cells #[.int .u8 34] 5))) (byte_fit _) (ys := byteCells [q]) rfl rfl (HNEW.out wo).out (byte_fit _) (by simp only [byteCells, List.length_map, List.length_cons, List.length_nil, HL.out]; omega) (Nat.le_trans hBo (fut wo (wo.alloc (.cells #[.int .u8 34] 5))).size) (N := n + 1) (by simp only [byteCells, List.length_map, List.length_cons, List.length_nil, HL.out]) ?_; intro A7 c7 w7 hq1 hq2 ho7 hg7 hb7; have HO7 : Hid (Own w7 B 5 1 (.slice A7 (n + 1) c7) (byteCells (out ++ [q]))) := (by show Own _ _ _ _ _ _; unfold byteCells at ho7 ⊢; rw [List.map_append]; exact ho7); have HM7 : Hid (Below B W w7) := (HM.out.trans ((fut wo (wo.alloc (.cells #[.int .u8 34] 5))).mono hBo)).trans hb7; clear hq1 hq2 ho7 hg7 hb7)
              go_roundw
              case rel => exact ⟨k + 1, n + 1, c7, A7, out ++ [q], true, false, by omega, rfl, rfl, rfl, by go_num, by show _ = _; rw [List.length_append, HL.out]; rfl, by omega, HXN, HO7.out, HM7.out⟩
              case measure => simp [intOf]; omega
            | true =>
              have h1 : insW (omP picks) k false true (q :: T0.data.toList.drop (k + 1)) = q :: insW (omP picks) (k + 1) false false (T0.data.toList.drop (k + 1)) := by
                rw [insW, if_neg (by rw [hS2]; simp), if_neg (by simp), if_neg (by simp)]
              clear hS hS2 hS3 h34
              have HXN : Hid ((out ++ [q]) ++ insW (omP picks) (k + 1) false false (T0.data.toList.drop (k + 1)) = R) := by show _ = _; rw [← HX2, h1, List.append_assoc]; rfl
              clear HX2
              go_wp2_with (at_builtin; refine wpList_append_sl rfl (.tmp 93) (.tmp 95) 47 rfl eiByte (base := B) (xs := byteCells out) rfl (HO.out.fut (w' := wo.alloc (.cells #[.int .u8 34] 5))) (byte_fit _) (ys := byteCells [q]) rfl rfl (HNEW.out wo).out (byte_fit _) (by simp only [byteCells, List.length_map, List.length_cons, List.length_nil, HL.out]; omega) (Nat.le_trans hBo (fut wo (wo.alloc (.cells #[.int .u8 34] 5))).size) (N := n + 1) (by simp only [byteCells, List.length_map, List.length_cons, List.length_nil, HL.out]) ?_; intro A7 c7 w7 hq1 hq2 ho7 hg7 hb7; have HO7 : Hid (Own w7 B 5 1 (.slice A7 (n + 1) c7) (byteCells (out ++ [q]))) := (by show Own _ _ _ _ _ _; unfold byteCells at ho7 ⊢; rw [List.map_append]; exact ho7); have HM7 : Hid (Below B W w7) := (HM.out.trans ((fut wo (wo.alloc (.cells #[.int .u8 34] 5))).mono hBo)).trans hb7; clear hq1 hq2 ho7 hg7 hb7)
              go_roundw
              case rel => exact ⟨k + 1, n + 1, c7, A7, out ++ [q], false, false, by omega, rfl, rfl, rfl, by go_num, by show _ = _; rw [List.length_append, HL.out]; rfl, by omega, HXN, HO7.out, HM7.out⟩
              case measure => simp [intOf]; omega
          · have e34 : (x == 34) = false := beq_eq_false_iff_ne.2 (by omega)
            have h1 : insW (omP picks) k false sk (q :: T0.data.toList.drop (k + 1)) = q :: insW (omP picks) (k + 1) false false (T0.data.toList.drop (k + 1)) := by
              rw [insW, if_neg (by rw [hS2]; simp), if_neg (by simp), if_neg (fun hh => h34 hh.1)]
            clear hS hS2 hS3 h34
            have HXN : Hid ((out ++ [q]) ++ insW (omP picks) (k + 1) false false (T0.data.toList.drop (k + 1)) = R) := by show _ = _; rw [← HX2, h1, List.append_assoc]; rfl
            clear HX2
            go_wp2_with (at_builtin; refine wpList_append_sl rfl (.tmp 93) (.tmp 95) 47 rfl eiByte (base := B) (xs := byteCells out) rfl (HO.out.fut (w' := wo.alloc (.cells #[.int .u8 x] 5))) (byte_fit _) (ys := byteCells [q]) rfl rfl (HNEW.out wo).out (byte_fit _) (by simp only [byteCells, List.length_map, List.length_cons, List.length_nil, HL.out]; omega) (Nat.le_trans hBo (fut wo (wo.alloc (.cells #[.int .u8 x] 5))).size) (N := n + 1) (by simp only [byteCells, List.length_map, List.length_cons, List.length_nil, HL.out]) ?_; intro A7 c7 w7 hq1 hq2 ho7 hg7 hb7; have HO7 : Hid (Own w7 B 5 1 (.slice A7 (n + 1) c7) (byteCells (out ++ [q]))) := (by show Own _ _ _ _ _ _; unfold byteCells at ho7 ⊢; rw [List.map_append]; exact ho7); have HM7 : Hid (Below B W w7) := (HM.out.trans ((fut wo (wo.alloc (.cells #[.int .u8 x] 5))).mono hBo)).trans hb7; clear hq1 hq2 ho7 hg7 hb7)
            go_roundw
            case rel => exact ⟨k + 1, n + 1, c7, A7, out ++ [q], false, false, by omega, rfl, rfl, rfl, by go_num, by show _ = _; rw [List.length_append, HL.out]; rfl, by omega, HXN, HO7.out, HM7.out⟩
            case measure => simp [intOf]; omega
      | true =>
        by_cases h92 : q.toNat = 92
        · have h92x : x = 92 := by omega
          subst h92x
          cases sk with
          | false =>
            have h1 : insW (omP picks) k true false (q :: T0.data.toList.drop (k + 1)) = q :: insW (omP picks) (k + 1) true true (T0.data.toList.drop (k + 1)) := ins_stroke h92
            clear h92
            have HXN : Hid ((out ++ [q]) ++ insW (omP picks) (k + 1) true true (T0.data.toList.drop (k + 1)) = R) := by show _ = _; rw [← HX2, h1, List.append_assoc]; rfl
            clear HX2
            go_wp2_with (at_builtin; refine wpList_append_sl rfl (.tmp 93) (.tmp 95) 47 rfl eiByte (base := B) (xs := byteCells out) rfl (HO.out.fut (w' := wo.alloc (.cells #[.int .u8 92] 5))) (byte_fit _) (ys := byteCells [q]) rfl rfl (HNEW.out wo).out (byte_fit _) (by simp only [byteCells, List.length_map, List.length_cons, List.length_nil, HL.out]; omega) (Nat.le_trans hBo (fut wo (wo.alloc (.cells #[.int .u8 92] 5))).size) (N := n + 1) (by simp only [byteCells, List.length_map, List.length_cons, List.length_nil, HL.out]) ?_; intro A7 c7 w7 hq1 hq2 ho7 hg7 hb7; have HO7 : Hid (Own w7 B 5 1 (.slice A7 (n + 1) c7) (byteCells (out ++ [q]))) := (by show Own _ _ _ _ _ _; unfold byteCells at ho7 ⊢; rw [List.map_append]; exact ho7); have HM7 : Hid (Below B W w7) := (HM.out.trans ((fut wo (wo.alloc (.cells #[.int .u8 92] 5))).mono hBo)).trans hb7; clear hq1 hq2 ho7 hg7 hb7)
            go_roundw
            case rel => exact ⟨k + 1, n + 1, c7, A7, out ++ [q], true, true, by omega, rfl, rfl, rfl, by go_num, by show _ = _; rw [List.length_append, HL.out]; rfl, by omega, HXN, HO7.out, HM7.out⟩
            case measure => simp [intOf]; omega
          | true =>
            have h1 : insW (omP picks) k true true (q :: T0.data.toList.drop (k + 1)) = q :: insW (omP picks) (k + 1) true false (T0.data.toList.drop (k + 1)) := ins_skip
            clear h92
            have HXN : Hid ((out ++ [q]) ++ insW (omP picks) (k + 1) true false (T0.data.toList.drop (k + 1)) = R) := by show _ = _; rw [← HX2, h1, List.append_assoc]; rfl
            clear HX2
            go_wp2_with (at_builtin; refine wpList_append_sl rfl (.tmp 93) (.tmp 95) 47 rfl eiByte (base := B) (xs := byteCells out) rfl (HO.out.fut (w' := wo.alloc (.cells #[.int .u8 92] 5))) (byte_fit _) (ys := byteCells [q]) rfl rfl (HNEW.out wo).out (byte_fit _) (by simp only [byteCells, List.length_map, List.length_cons, List.length_nil, HL.out]; omega) (Nat.le_trans hBo (fut wo (wo.alloc (.cells #[.int .u8 92] 5))).size) (N := n + 1) (by simp only [byteCells, List.length_map, List.length_cons, List.length_nil, HL.out]) ?_; intro A7 c7 w7 hq1 hq2 ho7 hg7 hb7; have HO7 : Hid (Own w7 B 5 1 (.slice A7 (n + 1) c7) (byteCells (out ++ [q]))) := (by show Own _ _ _ _ _ _; unfold byteCells at ho7 ⊢; rw [List.map_append]; exact ho7); have HM7 : Hid (Below B W w7) := (HM.out.trans ((fut wo (wo.alloc (.cells #[.int .u8 92] 5))).mono hBo)).trans hb7; clear hq1 hq2 ho7 hg7 hb7)
            go_roundw
            case rel => exact ⟨k + 1, n + 1, c7, A7, out ++ [q], true, false, by omega, rfl, rfl, rfl, by go_num, by show _ = _; rw [List.length_append, HL.out]; rfl, by omega, HXN, HO7.out, HM7.out⟩
            case measure => simp [intOf]; omega
        · have e92 : (x == 92) = false := beq_eq_false_iff_ne.2 (by omega)
          by_cases h34 : q.toNat = 34
          · have h34x : x = 34 := by omega
            subst h34x
            cases sk with
            | false =>
              have h1 : insW (omP picks) k true false (q :: T0.data.toList.drop (k + 1)) = q :: insW (omP picks) (k + 1) false false (T0.data.toList.drop (k + 1)) := by
                rw [show q = 34 from UInt8.toNat_inj.1 h34]; exact ins_shut
              clear h92 h34
              have HXN : Hid ((out ++ [q]) ++ insW (omP picks) (k + 1) false false (T0.data.toList.drop (k + 1)) = R) := by show _ = _; rw [← HX2, h1, List.append_assoc]; rfl
              clear HX2
              go_wp2_with (at_builtin; refine wpList_append_sl rfl (.tmp 93) (.tmp 95) 47 rfl eiByte (base := B) (xs := byteCells out) rfl (HO.out.fut (w' := wo.alloc (.cells #[.int .u8 34] 5))) (byte_fit _) (ys := byteCells [q]) rfl rfl (HNEW.out wo).out (byte_fit _) (by simp only [byteCells, List.length_map, List.length_cons, List.length_nil, HL.out]; omega) (Nat.le_trans hBo (fut wo (wo.alloc (.cells #[.int .u8 34] 5))).size) (N := n + 1) (by simp only [byteCells, List.length_map, List.length_cons, List.length_nil, HL.out]) ?_; intro A7 c7 w7 hq1 hq2 ho7 hg7 hb7; have HO7 : Hid (Own w7 B 5 1 (.slice A7 (n + 1) c7) (byteCells (out ++ [q]))) := (by show Own _ _ _ _ _ _; unfold byteCells at ho7 ⊢; rw [List.map_append]; exact ho7); have HM7 : Hid (Below B W w7) := (HM.out.trans ((fut wo (wo.alloc (.cells #[.int .u8 34] 5))).mono hBo)).trans hb7; clear hq1 hq2 ho7 hg7 hb7)
              go_roundw
              case rel => exact ⟨k + 1, n + 1, c7, A7, out ++ [q], false, false, by omega, rfl, rfl, rfl, by go_num, by show _ = _; rw [List.length_append, HL.out]; rfl, by omega, HXN, HO7.out, HM7.out⟩
              case measure => simp [intOf]; omega
            | true =>
              have h1 : insW (omP picks) k true true (q :: T0.data.toList.drop (k + 1)) = q :: insW (omP picks) (k + 1) true false (T0.data.toList.drop (k + 1)) := ins_skip
              clear h92 h34
              have HXN : Hid ((out ++ [q]) ++ insW (omP picks) (k + 1) true false (T0.data.toList.drop (k + 1)) = R) := by show _ = _; rw [← HX2, h1, List.append_assoc]; rfl
              clear HX2
              go_wp2_with (at_builtin; refine wpList_append_sl rfl (.tmp 93) (.tmp 95) 47 rfl eiByte (base := B) (xs := byteCells out) rfl (HO.out.fut (w' := wo.alloc (.cells #[.int .u8 34] 5))) (byte_fit _) (ys := byteCells [q]) rfl rfl (HNEW.out wo).out (byte_fit _) (by simp only [byteCells, List.length_map, List.length_cons, List.length_nil, HL.out]; omega) (Nat.le_trans hBo (fut wo (wo.alloc (.cells #[.int .u8 34] 5))).size) (N := n + 1) (by simp only [byteCells, List.length_map, List.length_cons, List.length_nil, HL.out]) ?_; intro A7 c7 w7 hq1 hq2 ho7 hg7 hb7; have HO7 : Hid (Own w7 B 5 1 (.slice A7 (n + 1) c7) (byteCells (out ++ [q]))) := (by show Own _ _ _ _ _ _; unfold byteCells at ho7 ⊢; rw [List.map_append]; exact ho7); have HM7 : Hid (Below B W w7) := (HM.out.trans ((fut wo (wo.alloc (.cells #[.int .u8 34] 5))).mono hBo)).trans hb7; clear hq1 hq2 ho7 hg7 hb7)
              go_roundw
              case rel => exact ⟨k + 1, n + 1, c7, A7, out ++ [q], true, false, by omega, rfl, rfl, rfl, by go_num, by show _ = _; rw [List.length_append, HL.out]; rfl, by omega, HXN, HO7.out, HM7.out⟩
              case measure => simp [intOf]; omega
          · have e34 : (x == 34) = false := beq_eq_false_iff_ne.2 (by omega)
            cases sk with
            | false =>
              have h1 : insW (omP picks) k true false (q :: T0.data.toList.drop (k + 1)) = q :: insW (omP picks) (k + 1) true false (T0.data.toList.drop (k + 1)) := ins_in h92 h34
              clear h92 h34
              have HXN : Hid ((out ++ [q]) ++ insW (omP picks) (k + 1) true false (T0.data.toList.drop (k + 1)) = R) := by show _ = _; rw [← HX2, h1, List.append_assoc]; rfl
              clear HX2
              go_wp2_with (at_builtin; refine wpList_append_sl rfl (.tmp 93) (.tmp 95) 47 rfl eiByte (base := B) (xs := byteCells out) rfl (HO.out.fut (w' := wo.alloc (.cells #[.int .u8 x] 5))) (byte_fit _) (ys := byteCells [q]) rfl rfl (HNEW.out wo).out (byte_fit _) (by simp only [byteCells, List.length_map, List.length_cons, List.length_nil, HL.out]; omega) (Nat.le_trans hBo (fut wo (wo.alloc (.cells #[.int .u8 x] 5))).size) (N := n + 1) (by simp only [byteCells, List.length_map, List.length_cons, List.length_nil, HL.out]) ?_; intro A7 c7 w7 hq1 hq2 ho7 hg7 hb7; have HO7 : Hid (Own w7 B 5 1 (.slice A7 (n + 1) c7) (byteCells (out ++ [q]))) := (by show Own _ _ _ _ _ _; unfold byteCells at ho7 ⊢; rw [List.map_append]; exact ho7); have HM7 : Hid (Below B W w7) := (HM.out.trans ((fut wo (wo.alloc (.cells #[.int .u8 x] 5))).mono hBo)).trans hb7; clear hq1 hq2 ho7 hg7 hb7)
              go_roundw
              case rel => exact ⟨k + 1, n + 1, c7, A7, out ++ [q], true, false, by omega, rfl, rfl, rfl, by go_num, by show _ = _; rw [List.length_append, HL.out]; rfl, by omega, HXN, HO7.out, HM7.out⟩
              case measure => simp [intOf]; omega
            | true =>
              have h1 : insW (omP picks) k true true (q :: T0.data.toList.drop (k + 1)) = q :: insW (omP picks) (k + 1) true false (T0.data.toList.drop (k + 1)) := ins_skip
              clear h92 h34
              have HXN : Hid ((out ++ [q]) ++ insW (omP picks) (k + 1) true false (T0.data.toList.drop (k + 1)) = R) := by show _ = _; rw [← HX2, h1, List.append_assoc]; rfl
              clear HX2
              go_wp2_with (at_builtin; refine wpList_append_sl rfl (.tmp 93) (.tmp 95) 47 rfl eiByte (base := B) (xs := byteCells out) rfl (HO.out.fut (w' := wo.alloc (.cells #[.int .u8 x] 5))) (byte_fit _) (ys := byteCells [q]) rfl rfl (HNEW.out wo).out (byte_fit _) (by simp only [byteCells, List.length_map, List.length_cons, List.length_nil, HL.out]; omega) (Nat.le_trans hBo (fut wo (wo.alloc (.cells #[.int .u8 x] 5))).size) (N := n + 1) (by simp only [byteCells, List.length_map, List.length_cons, List.length_nil, HL.out]) ?_; intro A7 c7 w7 hq1 hq2 ho7 hg7 hb7; have HO7 : Hid (Own w7 B 5 1 (.slice A7 (n + 1) c7) (byteCells (out ++ [q]))) := (by show Own _ _ _ _ _ _; unfold byteCells at ho7 ⊢; rw [List.map_append]; exact ho7); have HM7 : Hid (Below B W w7) := (HM.out.trans ((fut wo (wo.alloc (.cells #[.int .u8 x] 5))).mono hBo)).trans hb7; clear hq1 hq2 ho7 hg7 hb7)
              go_roundw
              case rel => exact ⟨k + 1, n + 1, c7, A7, out ++ [q], true, false, by omega, rfl, rfl, rfl, by go_num, by show _ = _; rw [List.length_append, HL.out]; rfl, by omega, HXN, HO7.out, HM7.out⟩
              case measure => simp [intOf]; omega
    · obtain rfl : k = T0.size := by omega
      clear hlt
      have HRE : Hid (out = R) := by
        show _ = _
        rw [← HX.out, show T0.size = T0.data.toList.length from rfl, List.drop_length, insW, List.append_nil]
      have hcv := bytes_convE (c := c) (HO.out.sl (byte_fit _).len) HL.out
      rw [HRE.out] at hcv
      have hsW : Step w2 wo := ⟨SW.below.trans (HM.out.mono (by have := SW.size; have := HBB.out; omega))⟩
      have HCV := hide hcv
      clear hcv
      go_upto_region 24 with (go_at_call 10; (with_reducible refine (P1.out _).mono ?_); rintro e wp ⟨⟨k2, b2, n2, s2, A2, nl2, c2, AK2, nk2, cK2, rfl, hr2⟩, hsp⟩; have HR2 := hide hr2; clear hr2)
      obtain ⟨W2, hW2⟩ : ∃ W : World, W = wp.alloc (.cells #[.int .i64 k2, .bool b2, .int .i64 n2, .string s2, .slice A2 nl2 c2, .slice AK2 nk2 cK2] 25) := ⟨_, rfl⟩
      have HB2 : Hid (Blk W2 wp.heap.size 25 [.int .i64 k2, .bool b2, .int .i64 n2, .string s2, .slice A2 nl2 c2, .slice AK2 nk2 cK2]) := by rw [hW2]; exact Blk.new wp _ 25
      have SW2 : Step wp W2 := by rw [hW2]; exact Step.of
      rw [← hW2]
      clear hW2
      have hcv := bytes_convE (c := c) ((HO.out.fut (w' := W2)).sl (byte_fit _).len) HL.out
      rw [HRE.out] at hcv
      go_upto_region 25 with (go_at_call 10; (with_reducible refine (P2.out _).mono ?_); rintro e wq ⟨⟨k3, b3, n3, s3, A3, nl3, c3, AK3, nk3, cK3, rfl, hr3⟩, hsq⟩; have HR3 := hide hr3; clear hr3 hcv)
      obtain ⟨W3, hW3⟩ : ∃ W : World, W = wq.alloc (.cells #[.int .i64 k3, .bool b3, .int .i64 n3, .string s3, .slice A3 nl3 c3, .slice AK3 nk3 cK3] 25) := ⟨_, rfl⟩
      have HB3 : Hid (Blk W3 wq.heap.size 25 [.int .i64 k3, .bool b3, .int .i64 n3, .string s3, .slice A3 nl3 c3, .slice AK3 nk3 cK3]) := by rw [hW3]; exact Blk.new wq _ 25
      have SW3 : Step wq W3 := by rw [hW3]; exact Step.of
      rw [← hW3]
      clear hW3
      go_upto_region 26 with (go_at_call 10; (with_reducible refine (P3.out _).mono ?_); rintro e wt ⟨⟨k4, b4, n4, s4, A4, nl4, c4, AK4, nk4, cK4, rfl⟩, hst⟩)
      obtain ⟨W4, hW4⟩ : ∃ W : World, W = wt.alloc (.cells #[.int .i64 k4, .bool b4, .int .i64 n4, .string s4, .slice A4 nl4 c4, .slice AK4 nk4 cK4] 25) := ⟨_, rfl⟩
      have HB4 : Hid (Blk W4 wt.heap.size 25 [.int .i64 k4, .bool b4, .int .i64 n4, .string s4, .slice A4 nl4 c4, .slice AK4 nk4 cK4]) := by rw [hW4]; exact Blk.new wt _ 25
      have SW4 : Step wt W4 := by rw [hW4]; exact Step.of
      rw [← hW4]
      clear hW4
      have SJ := hide (fun (w' : World) (h1 : Fut W4 w') => (by
        have hst3 : Step W4 w' := ⟨h1.below⟩
        exact same_rdd (j := norm j) wp wq HR2.out HR3.out w' : Calls Tryd.prog 12 #[.agg #[.int .i64 k2, .bool b2, .int .i64 n2, .string s2, .slice A2 nl2 c2, .slice AK2 nk2 cK2], .agg #[.int .i64 k3, .bool b3, .int .i64 n3, .string s3, .slice A3 nl3 c3, .slice AK3 nk3 cK3]] w' fun e w'' => e = .returned (.bool true) ∧ Step w' w''))
      obtain ⟨x0, x1, x2, x3, x4, x5⟩ := At.z6 (HB2.out.fut (w' := W4)).at0
      have lx := (HB2.out.fut (w' := W4)).lt
      obtain ⟨y0, y1, y2, y3, y4, y5⟩ := At.z6 (HB3.out.fut (w' := W4)).at0
      have ly := (HB3.out.fut (w' := W4)).lt
      go_wp2_with (first | (go_at_call 13; (with_reducible refine (NM.out _ _).mono ?_); rintro e wn ⟨rfl, rfl⟩) | (go_at_call 12; (with_reducible refine (SJ.out _ inferInstance).mono ?_); rintro e wz ⟨rfl, hsz⟩; clear x0 x1 x2 x3 x4 x5 lx y0 y1 y2 y3 y4 y5 ly))
      go_ret
      exact ⟨rfl, Step.of⟩

set_option maxRecDepth 100000 in
set_option maxHeartbeats 16000000 in
theorem white_none (j : J) (k1 : Int) (b1 : Bool) (n1 : Int) (s1 : ByteArray) (A1 : Option Addr) (nl1 c1 : Nat) (AK1 : Option Addr) (nk1 cK1 : Nat) (picks : Int) (w : World) (htb : Tab w) (hj : Rdd w j k1 b1 n1 s1 A1 nl1 c1 AK1 nk1 cK1) (T0 : ByteArray) (pc : Int) (hpp : printP j = (T0, pc)) (h0 : pc ≠ 0) :
    Calls Tryd.prog 9 #[.agg #[.int .i64 k1, .bool b1, .int .i64 n1, .string s1, .slice A1 nl1 c1, .slice AK1 nk1 cK1], .int .i64 picks] w fun e w' => e = .returned (.bool true) ∧ Step w w' := by
  have HTB := hide htb
  have AW : Hid (∀ w' (hf : Fut w w'), Calls Tryd.prog 14 #[] w' fun e w'' => e = .returned (.bool true) ∧ Step w' w'') := fun w' hf => awake3_any w' (Tab.fut htb)
  have HJ := hide hj
  have NM := hide num_any
  have hpn : (pc != 0) = true := bne_iff_ne.2 h0
  have PP : Hid (∀ w' (hf : Fut w w'), Calls Tryd.prog 15 #[.agg #[.int .i64 k1, .bool b1, .int .i64 n1, .string s1, .slice A1 nl1 c1, .slice AK1 nk1 cK1]] w' fun e w'' => e = .returned (.tuple #[.string T0, .int .i64 pc]) ∧ Step w' w'') := fun w' hf => by
    have h := print_rdd w HJ.out w' (Tab.fut HTB.out)
    rw [hpp] at h
    exact h
  clear htb hj hpp
  go_enter Tryd.func9, Tryd.ntmps9
  obtain ⟨W1, hW1⟩ : ∃ W : World, W = w.alloc (.cells #[.int .i64 k1, .bool b1, .int .i64 n1, .string s1, .slice A1 nl1 c1, .slice AK1 nk1 cK1] 25) := ⟨_, rfl⟩
  have HB1 : Hid (Blk W1 w.heap.size 25 [.int .i64 k1, .bool b1, .int .i64 n1, .string s1, .slice A1 nl1 c1, .slice AK1 nk1 cK1]) := by rw [hW1]; exact Blk.new w _ 25
  have SW1 : Step w W1 := by rw [hW1]; exact Step.of
  go_upto_region 1 with fail
  rw [← hW1]
  clear hW1
  go_upto_region 3 with (go_at_call 14; (with_reducible refine (AW.out _ inferInstance).mono ?_); rintro e wa ⟨rfl, hsa⟩)
  obtain ⟨x0, x1, x2, x3, x4, x5⟩ := At.z6 (HB1.out.fut (w' := wa)).at0
  have lx := (HB1.out.fut (w' := wa)).lt
  go_upto_region 4 with (go_at_call 15; (with_reducible refine (PP.out _ inferInstance).mono ?_); rintro e w2 ⟨rfl, hs2⟩; clear x0 x1 x2 x3 x4 x5 lx)
  go_wp2_with (go_at_call 13; (with_reducible refine (NM.out _ _).mono ?_); rintro e wn ⟨rfl, rfl⟩)
  go_ret
  exact ⟨rfl, Step.of⟩

set_option maxRecDepth 100000 in
set_option maxHeartbeats 16000000 in
theorem white_long (j : J) (k1 : Int) (b1 : Bool) (n1 : Int) (s1 : ByteArray) (A1 : Option Addr) (nl1 c1 : Nat) (AK1 : Option Addr) (nk1 cK1 : Nat) (picks : Int) (w : World) (htb : Tab w) (hj : Rdd w j k1 b1 n1 s1 A1 nl1 c1 AK1 nk1 cK1) (T0 : ByteArray) (hpp : printP j = (T0, 0)) (hT : 2000 < T0.size) :
    Calls Tryd.prog 9 #[.agg #[.int .i64 k1, .bool b1, .int .i64 n1, .string s1, .slice A1 nl1 c1, .slice AK1 nk1 cK1], .int .i64 picks] w fun e w' => e = .returned (.bool true) ∧ Step w w' := by
  have HTB := hide htb
  have AW : Hid (∀ w' (hf : Fut w w'), Calls Tryd.prog 14 #[] w' fun e w'' => e = .returned (.bool true) ∧ Step w' w'') := fun w' hf => awake3_any w' (Tab.fut htb)
  have HJ := hide hj
  have NM := hide num_any
  have hTn : (T0.size : Int) > 2000 := by omega
  have PP : Hid (∀ w' (hf : Fut w w'), Calls Tryd.prog 15 #[.agg #[.int .i64 k1, .bool b1, .int .i64 n1, .string s1, .slice A1 nl1 c1, .slice AK1 nk1 cK1]] w' fun e w'' => e = .returned (.tuple #[.string T0, .int .i64 0]) ∧ Step w' w'') := fun w' hf => by
    have h := print_rdd w HJ.out w' (Tab.fut HTB.out)
    rw [hpp] at h
    exact h
  clear htb hj hpp
  go_enter Tryd.func9, Tryd.ntmps9
  obtain ⟨W1, hW1⟩ : ∃ W : World, W = w.alloc (.cells #[.int .i64 k1, .bool b1, .int .i64 n1, .string s1, .slice A1 nl1 c1, .slice AK1 nk1 cK1] 25) := ⟨_, rfl⟩
  have HB1 : Hid (Blk W1 w.heap.size 25 [.int .i64 k1, .bool b1, .int .i64 n1, .string s1, .slice A1 nl1 c1, .slice AK1 nk1 cK1]) := by rw [hW1]; exact Blk.new w _ 25
  have SW1 : Step w W1 := by rw [hW1]; exact Step.of
  go_upto_region 1 with fail
  rw [← hW1]
  clear hW1
  go_upto_region 3 with (go_at_call 14; (with_reducible refine (AW.out _ inferInstance).mono ?_); rintro e wa ⟨rfl, hsa⟩)
  obtain ⟨x0, x1, x2, x3, x4, x5⟩ := At.z6 (HB1.out.fut (w' := wa)).at0
  have lx := (HB1.out.fut (w' := wa)).lt
  go_upto_region 4 with (go_at_call 15; (with_reducible refine (PP.out _ inferInstance).mono ?_); rintro e w2 ⟨rfl, hs2⟩; clear x0 x1 x2 x3 x4 x5 lx)
  go_wp2_with (go_at_call 13; (with_reducible refine (NM.out _ _).mono ?_); rintro e wn ⟨rfl, rfl⟩)
  go_ret
  exact ⟨rfl, Step.of⟩
theorem jsonWhite_t (t : T) (picks : Int) (w : World) (htb : Tab w) (h : RdT w t) :
    Calls Tryd.prog 9 #[.agg t.cells.toArray, .int .i64 picks] w fun e w' => e = .returned (.bool true) ∧ Step w w' := by
  cases t with
  | mk k b n s2 A c l AK cK ks =>
    have hj : Rdd w (T.j (.mk k b n s2 A c l AK cK ks)) k b n s2 A l.length c AK ks.length cK := ⟨l, ks, rfl, rfl, rfl, h⟩
    obtain ⟨⟨T0, pc⟩, hp⟩ : ∃ p, printP (T.j (.mk k b n s2 A c l AK cK ks)) = p := ⟨_, rfl⟩
    by_cases h0 : pc = 0
    · subst h0
      by_cases hT : T0.size ≤ 2000
      · exact white_main _ k b n s2 A l.length c AK ks.length cK picks w htb hj T0 hp hT
      · exact white_long _ k b n s2 A l.length c AK ks.length cK picks w htb hj T0 hp (by omega)
    · exact white_none _ k b n s2 A l.length c AK ks.length cK picks w htb hj T0 pc hp h0
end Go.Proofs.YtoibfefalflooaaDoor
