/-
  awake of the laws on JSON.
-/
import Derived.Test.YtoibfefalflooaaDoorJ5
namespace Go.Proofs.YtoibfefalflooaaDoor
open Go.RowKit

set_option maxRecDepth 100000 in
set_option maxHeartbeats 16000000 in
theorem awake3_any (w : World) (htb : Tab w) : Calls Tryd.prog 14 #[] w fun e w' => e = .returned (.bool true) ∧ Step w w' := by
  have HTB := hide htb
  have P1 : Hid (∀ w', Calls Tryd.prog 10 #[.string ⟨#[32, 123, 34, 97, 34, 58, 91, 49, 44, 45, 50, 44, 110, 117, 108, 108, 44, 34, 120, 92, 110, 34, 93, 125, 32]⟩] w' fun e w'' => (∃ (k1 : Int) (b1 : Bool) (n1 : Int) (s1 : ByteArray) (A1 : Option Addr) (nl1 c1 : Nat) (AK1 : Option Addr) (nk1 cK1 : Nat), e = .returned (.tuple #[.agg #[.int .i64 k1, .bool b1, .int .i64 n1, .string s1, .slice A1 nl1 c1, .slice AK1 nk1 cK1], .int .i64 0]) ∧ Rdd w'' aJ k1 b1 n1 s1 A1 nl1 c1 AK1 nk1 cK1) ∧ Step w' w'') := fun w' => by
    have h := parse_rdd aT w' (by decide)
    rw [a_parse] at h
    exact h
  have P2 : Hid (∀ w', Calls Tryd.prog 10 #[.string ⟨#[91, 49, 46, 48, 93]⟩] w' fun e w'' => (∃ (k3 : Int) (b3 : Bool) (n3 : Int) (s3 : ByteArray) (A3 : Option Addr) (nl3 c3 : Nat) (AK3 : Option Addr) (nk3 cK3 : Nat), e = .returned (.tuple #[.agg #[.int .i64 k3, .bool b3, .int .i64 n3, .string s3, .slice A3 nl3 c3, .slice AK3 nk3 cK3], .int .i64 300]) ∧ Rdd w'' (parseP ⟨#[91, 49, 46, 48, 93]⟩).1 k3 b3 n3 s3 A3 nl3 c3 AK3 nk3 cK3) ∧ Step w' w'') := fun w' => by
    have h := parse_rdd ⟨#[91, 49, 46, 48, 93]⟩ w' (by decide)
    rw [a_bad] at h
    exact h
  clear htb
  go_enter Tryd.func14, Tryd.ntmps14
  go_upto_region 2 with (go_at_call 10; (with_reducible refine (P1.out _).mono ?_); rintro e w1 ⟨⟨k1, b1, n1, s1, A1, nl1, c1, AK1, nk1, cK1, rfl, hr1⟩, hs1⟩; have HR1 := hide hr1; clear hr1)
  obtain ⟨W1, hW1⟩ : ∃ W : World, W = w1.alloc (.cells #[.int .i64 k1, .bool b1, .int .i64 n1, .string s1, .slice A1 nl1 c1, .slice AK1 nk1 cK1] 25) := ⟨_, rfl⟩
  have HB1 : Hid (Blk W1 w1.heap.size 25 [.int .i64 k1, .bool b1, .int .i64 n1, .string s1, .slice A1 nl1 c1, .slice AK1 nk1 cK1]) := by rw [hW1]; exact Blk.new w1 _ 25
  have SW1 : Step w1 W1 := by rw [hW1]; exact Step.of
  rw [← hW1]
  clear hW1
  have PR : Hid (∀ w' (hf : Fut W1 w'), Calls Tryd.prog 15 #[.agg #[.int .i64 k1, .bool b1, .int .i64 n1, .string s1, .slice A1 nl1 c1, .slice AK1 nk1 cK1]] w' fun e w'' => e = .returned (.tuple #[.string ⟨#[123, 34, 97, 34, 58, 91, 49, 44, 45, 50, 44, 110, 117, 108, 108, 44, 34, 120, 92, 110, 34, 93, 125]⟩, .int .i64 0]) ∧ Step w' w'') := fun w' hf => by
    have hst : Step W1 w' := ⟨hf.below⟩
    have h := print_rdd w1 HR1.out w' (Tab.fut (w := w) HTB.out)
    rw [a_print] at h
    exact h
  have GT : Hid (∀ w' (hf : Fut W1 w'), Calls Tryd.prog 17 #[.agg #[.int .i64 k1, .bool b1, .int .i64 n1, .string s1, .slice A1 nl1 c1, .slice AK1 nk1 cK1], .string ⟨#[97]⟩] w' fun e w'' => (∃ (k4 : Int) (b4 : Bool) (n4 : Int) (s4 : ByteArray) (A4 : Option Addr) (nl4 c4 : Nat) (AK4 : Option Addr) (nk4 cK4 : Nat), e = .returned (.tuple #[.agg #[.int .i64 k4, .bool b4, .int .i64 n4, .string s4, .slice A4 nl4 c4, .slice AK4 nk4 cK4], .bool true]) ∧ Hid (nl4 = 4)) ∧ Step w' w'') := fun w' hf => by
    have hst : Step W1 w' := ⟨hf.below⟩
    have h := get_rdd w1 HR1.out ⟨#[97]⟩ w'
    rw [a_get] at h
    exact h.mono fun e w'' hh => by
      obtain ⟨⟨k4, b4, n4, s4, A4, nl4, c4, AK4, nk4, cK4, h1, h2⟩, h3⟩ := hh
      exact ⟨⟨k4, b4, n4, s4, A4, nl4, c4, AK4, nk4, cK4, h1, h2.eqs.2.2.2.2.1⟩, h3⟩
  have GN : Hid (∀ w' (hf : Fut W1 w'), Calls Tryd.prog 17 #[.agg #[.int .i64 k1, .bool b1, .int .i64 n1, .string s1, .slice A1 nl1 c1, .slice AK1 nk1 cK1], .string ⟨#[98]⟩] w' fun e w'' => (∃ (k5 : Int) (b5 : Bool) (n5 : Int) (s5 : ByteArray) (A5 : Option Addr) (nl5 c5 : Nat) (AK5 : Option Addr) (nk5 cK5 : Nat), e = .returned (.tuple #[.agg #[.int .i64 k5, .bool b5, .int .i64 n5, .string s5, .slice A5 nl5 c5, .slice AK5 nk5 cK5], .bool false]) ∧ Rdd w'' J.zero k5 b5 n5 s5 A5 nl5 c5 AK5 nk5 cK5) ∧ Step w' w'') := fun w' hf => by
    have hst : Step W1 w' := ⟨hf.below⟩
    have h := get_rdd w1 HR1.out ⟨#[98]⟩ w'
    rw [a_no] at h
    exact h
  have NM := hide num_any
  obtain ⟨x0, x1, x2, x3, x4, x5⟩ := At.z6 (HB1.out.fut (w' := W1)).at0
  have lx := (HB1.out.fut (w' := W1)).lt
  go_upto_region 3 with (go_at_call 15; (with_reducible refine (PR.out _ inferInstance).mono ?_); rintro e w2 ⟨rfl, hs2⟩)
  clear x0 x1 x2 x3 x4 x5 lx
  go_upto_region 4 with (go_at_call 10; (with_reducible refine (P2.out _).mono ?_); rintro e w3 ⟨⟨k3, b3, n3, s3, A3, nl3, c3, AK3, nk3, cK3, rfl, hr3⟩, hs3⟩; have HR3 := hide hr3; clear hr3)
  obtain ⟨W3, hW3⟩ : ∃ W : World, W = w3.alloc (.cells #[.int .i64 k3, .bool b3, .int .i64 n3, .string s3, .slice A3 nl3 c3, .slice AK3 nk3 cK3] 25) := ⟨_, rfl⟩
  have HB3 : Hid (Blk W3 w3.heap.size 25 [.int .i64 k3, .bool b3, .int .i64 n3, .string s3, .slice A3 nl3 c3, .slice AK3 nk3 cK3]) := by rw [hW3]; exact Blk.new w3 _ 25
  have SW3 : Step w3 W3 := by rw [hW3]; exact Step.of
  rw [← hW3]
  clear hW3
  obtain ⟨x0, x1, x2, x3, x4, x5⟩ := At.z6 (HB1.out.fut (w' := W3)).at0
  have lx := (HB1.out.fut (w' := W3)).lt
  go_upto_region 5 with (go_at_call 17; (with_reducible refine (GT.out _ inferInstance).mono ?_); rintro e w4 ⟨⟨k4, b4, n4, s4, A4, nl4, c4, AK4, nk4, cK4, rfl, HN4⟩, hs4⟩)
  clear x0 x1 x2 x3 x4 x5 lx
  obtain ⟨W4, hW4⟩ : ∃ W : World, W = w4.alloc (.cells #[.int .i64 k4, .bool b4, .int .i64 n4, .string s4, .slice A4 nl4 c4, .slice AK4 nk4 cK4] 25) := ⟨_, rfl⟩
  have HB4 : Hid (Blk W4 w4.heap.size 25 [.int .i64 k4, .bool b4, .int .i64 n4, .string s4, .slice A4 nl4 c4, .slice AK4 nk4 cK4]) := by rw [hW4]; exact Blk.new w4 _ 25
  have SW4 : Step w4 W4 := by rw [hW4]; exact Step.of
  rw [← hW4]
  clear hW4
  obtain ⟨x0, x1, x2, x3, x4, x5⟩ := At.z6 (HB1.out.fut (w' := W4)).at0
  have lx := (HB1.out.fut (w' := W4)).lt
  go_upto_region 6 with (go_at_call 17; (with_reducible refine (GN.out _ inferInstance).mono ?_); rintro e w5 ⟨⟨k5, b5, n5, s5, A5, nl5, c5, AK5, nk5, cK5, rfl, hr5⟩, hs5⟩)
  clear x0 x1 x2 x3 x4 x5 lx
  obtain ⟨W5, hW5⟩ : ∃ W : World, W = w5.alloc (.cells #[.int .i64 k5, .bool b5, .int .i64 n5, .string s5, .slice A5 nl5 c5, .slice AK5 nk5 cK5] 25) := ⟨_, rfl⟩
  have HB5 : Hid (Blk W5 w5.heap.size 25 [.int .i64 k5, .bool b5, .int .i64 n5, .string s5, .slice A5 nl5 c5, .slice AK5 nk5 cK5]) := by rw [hW5]; exact Blk.new w5 _ 25
  have SW5 : Step w5 W5 := by rw [hW5]; exact Step.of
  rw [← hW5]
  clear hW5
  obtain ⟨x0, x1, x2, x3, x4, x5⟩ := At.z6 (HB4.out.fut (w' := W5)).at0
  have lx := (HB4.out.fut (w' := W5)).lt
  obtain rfl : nl4 = 4 := HN4.out
  go_wp2_with (go_at_call 13; (with_reducible refine (NM.out _ _).mono ?_); rintro e w6 ⟨rfl, rfl⟩)
  go_ret
  exact ⟨rfl, Step.of⟩
end Go.Proofs.YtoibfefalflooaaDoor
