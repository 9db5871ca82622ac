/-
  The law JsonNumbers.
-/
import Derived.Test.YtoibfefalflooaaDoorJ6
import Derived.Test.YtoibfefalflooaaDoorJ9
namespace Go.Proofs.YtoibfefalflooaaDoor
open Go.RowKit

set_option maxRecDepth 100000 in
set_option maxHeartbeats 16000000 in
theorem jsonNumbers_any (x which : Int) (w : World) (htb : Tab w) (hx : -9223372036854775808 ≤ x ∧ x ≤ 9223372036854775807) :
    Calls Tryd.prog 6 #[.int .i64 x, .int .i64 which] w fun e w' => e = .returned (.bool true) ∧ Step w w' := by
  have HTB := hide htb
  have AW : Hid (∀ w' (hf : Fut w w'), Calls Tryd.prog 14 #[] w' fun e w'' => e = .returned (.bool true) ∧ Step w' w'') := fun w' hf => awake3_any w' (Tab.fut htb)
  have hnp := n_print hx.1 hx.2
  have hpp := n_parse hx.1 hx.2
  have hbad := n_bad hx.1 hx.2
  have hbsz := n_size hx.1 hx.2
  have hil := itoa_len hx.1 hx.2
  have DC := fun w' => dec_any x hx.1 hx.2 w'
  have PR : Hid (∀ w' (hf : Fut w w'), Calls Tryd.prog 15 #[.agg #[.int .i64 2, .bool false, .int .i64 x, .string ⟨#[]⟩, .slice none 0 0, .slice none 0 0]] w' fun e w'' => e = .returned (.tuple #[.string (ofL (Go.Lib.itoa x)), .int .i64 0]) ∧ Step w' w'') := fun w' hf => by
    have h := print_rdd (j := nJ x) w' ⟨[], [], rfl, rfl, rfl, TAt.rd (TAt.leaf w' (fun _ => True) 2 false x ⟨#[]⟩) (fine_leaf (by decide) hx (by decide))⟩ w' (Tab.fut (w := w) HTB.out)
    rw [hnp] at h
    exact h
  have hSz : (ofL (Go.Lib.itoa x)).size ≤ 20 := by rw [ofL_size]; exact hil
  obtain ⟨S, hS⟩ : ∃ S, ofL (Go.Lib.itoa x) = S := ⟨_, rfl⟩
  rw [hS] at PR hpp hbad hbsz hSz DC
  have DC := hide DC
  have HBAD := hide hbad; have HBSZ := hide hbsz
  have P1 : Hid (∀ w', Calls Tryd.prog 10 #[.string S] w' fun e w'' => (∃ (k1 : Int) (b1 : Bool) (n1 : Int) (s1 : ByteArray) (A1 : Option Addr) (nl1 c1 : Nat) (AK1 : Option Addr) (nk1 cK1 : Nat), e = .returned (.tuple #[.agg #[.int .i64 k1, .bool b1, .int .i64 n1, .string s1, .slice A1 nl1 c1, .slice AK1 nk1 cK1], .int .i64 0]) ∧ Hid (k1 = 2 ∧ n1 = x)) ∧ Step w' w'') := fun w' => by
    have h := parse_rdd S w' (by omega)
    rw [hpp] at h
    exact h.mono fun e w'' hh => by
      obtain ⟨⟨k1, b1, n1, s1, A1, nl1, c1, AK1, nk1, cK1, h1, h2⟩, h3⟩ := hh
      exact ⟨⟨k1, b1, n1, s1, A1, nl1, c1, AK1, nk1, cK1, h1, h2.eqs.1, h2.eqs.2.2.1⟩, h3⟩
  have P2 : Hid (∀ t ∈ nBad S, ∀ w', Calls Tryd.prog 10 #[.string t] w' fun e w'' => (∃ (k2 : Int) (b2 : Bool) (n2 : Int) (s2 : ByteArray) (A2 : Option Addr) (nl2 c2 : Nat) (AK2 : Option Addr) (nk2 cK2 : Nat), e = .returned (.tuple #[.agg #[.int .i64 k2, .bool b2, .int .i64 n2, .string s2, .slice A2 nl2 c2, .slice AK2 nk2 cK2], .int .i64 300])) ∧ Step w' w'') := fun t ht w' => by
    have h := parse_rdd t w' (by have := HBSZ.out t ht; omega)
    rw [HBAD.out t ht] at h
    exact h.mono fun e w'' hh => by
      obtain ⟨⟨k2, b2, n2, s2, A2, nl2, c2, AK2, nk2, cK2, h1, h2⟩, h3⟩ := hh
      exact ⟨⟨k2, b2, n2, s2, A2, nl2, c2, AK2, nk2, cK2, h1⟩, h3⟩
  have NM := hide num_any
  obtain ⟨V, hV⟩ : ∃ V : Int, IntKind.u64.wrap which = V := ⟨_, rfl⟩
  have hV0 : 0 ≤ V := by rw [← hV, IntKind.wrap_u64]; omega
  obtain ⟨K, hK⟩ : ∃ K : Nat, V % 12 = (K : Int) := ⟨(V % 12).toNat, by omega⟩
  have hK12 : K < 12 := by omega
  have hKw : IntKind.i64.wrap (K : Int) = (K : Int) := by rw [IntKind.wrap_i64]; omega
  clear htb hnp hpp hbad hbsz hil hS
  go_enter Tryd.func6, Tryd.ntmps6
  go_upto_region 4 with (first | (go_at_call 14; (with_reducible refine (AW.out _ inferInstance).mono ?_); rintro e wa ⟨rfl, hsa⟩) | (go_at_call 15; (with_reducible refine (PR.out _ inferInstance).mono ?_); rintro e w1 ⟨rfl, hs1⟩))
  go_upto_region 5 with (go_at_call 10; (with_reducible refine (P1.out _).mono ?_); rintro e w2 ⟨⟨k1, b1, n1, s1, A1, nl1, c1, AK1, nk1, cK1, rfl, HK1⟩, hs2⟩)
  obtain ⟨W1, hW1⟩ : ∃ W : World, W = w2.alloc (.cells #[.int .i64 k1, .bool b1, .int .i64 n1, .string s1, .slice A1 nl1 c1, .slice AK1 nk1 cK1] 25) := ⟨_, rfl⟩
  have HB1 : Hid (Blk W1 w2.heap.size 25 [.int .i64 k1, .bool b1, .int .i64 n1, .string s1, .slice A1 nl1 c1, .slice AK1 nk1 cK1]) := by rw [hW1]; exact Blk.new w2 _ 25
  have SW1 : Step w2 W1 := by rw [hW1]; exact Step.of
  rw [← hW1]
  clear hW1
  go_upto_region 6 with fail
  obtain ⟨W2, hW2⟩ : ∃ W : World, W = W1.alloc (.cells #[.string (S ++ ⟨#[46, 48]⟩), .string (S ++ ⟨#[101, 49]⟩), .string (⟨#[48]⟩ ++ S), .string (⟨#[43]⟩ ++ S), .string (S ++ ⟨#[120]⟩), .string ⟨#[45, 48]⟩, .string ⟨#[48, 48]⟩, .string ⟨#[45]⟩, .string ⟨#[57, 50, 50, 51, 51, 55, 50, 48, 51, 54, 56, 53, 52, 55, 55, 53, 56, 48, 56]⟩, .string ⟨#[45, 57, 50, 50, 51, 51, 55, 50, 48, 51, 54, 56, 53, 52, 55, 55, 53, 56, 48, 57]⟩, .string ⟨#[49, 95, 48]⟩, .string ⟨#[46, 53]⟩] 9) := ⟨_, rfl⟩
  have hsl : SlAt W2 W2.heap.size 1 (some ⟨W1.heap.size, 0, none⟩) (strCells (nBad S)) := by rw [hW2]; exact SlAt.new (w := W1) (size := 1) (l := strCells (nBad S)) (cs := [.string (S ++ ⟨#[46, 48]⟩), .string (S ++ ⟨#[101, 49]⟩), .string (⟨#[48]⟩ ++ S), .string (⟨#[43]⟩ ++ S), .string (S ++ ⟨#[120]⟩), .string ⟨#[45, 48]⟩, .string ⟨#[48, 48]⟩, .string ⟨#[45]⟩, .string ⟨#[57, 50, 50, 51, 51, 55, 50, 48, 51, 54, 56, 53, 52, 55, 55, 53, 56, 48, 56]⟩, .string ⟨#[45, 57, 50, 50, 51, 51, 55, 50, 48, 51, 54, 56, 53, 52, 55, 55, 53, 56, 48, 57]⟩, .string ⟨#[49, 95, 48]⟩, .string ⟨#[46, 53]⟩]) (t := 9) rfl (keys_fit _).len
  have SW2 : Step W1 W2 := by rw [hW2]; exact Step.of
  rw [← hW2]
  clear hW2
  obtain ⟨b_, o_, tt, he_, _, htt, hcell⟩ := str_at hsl (w := W2) inferInstance (k := K) hK12
  injection he_ with he_; injection he_ with e1 e2; subst e1 e2
  rw [Nat.zero_add] at hcell
  have P3 := hide (P2.out tt (List.mem_of_getElem? htt))
  have hKi : (K : Int) < 12 := by omega
  clear hsl htt
  go_upto_region 8 with (go_at_call 10; (with_reducible refine (P3.out _).mono ?_); rintro e w3 ⟨⟨k2, b2, n2, s2, A2, nl2, c2, AK2, nk2, cK2, rfl⟩, hs3⟩)
  obtain ⟨W2b, hW2b⟩ : ∃ W : World, W = w3.alloc (.cells #[.int .i64 k2, .bool b2, .int .i64 n2, .string s2, .slice A2 nl2 c2, .slice AK2 nk2 cK2] 25) := ⟨_, rfl⟩
  have HB2 : Hid (Blk W2b w3.heap.size 25 [.int .i64 k2, .bool b2, .int .i64 n2, .string s2, .slice A2 nl2 c2, .slice AK2 nk2 cK2]) := by rw [hW2b]; exact Blk.new w3 _ 25
  have SW2b : Step w3 W2b := by rw [hW2b]; exact Step.of
  rw [← hW2b]
  clear hW2b
  obtain ⟨rfl, rfl⟩ := HK1.out
  clear hcell
  obtain ⟨y0, y1, y2, y3, y4, y5⟩ := At.z6 (HB1.out.fut (w' := W2b)).at0
  have ly := (HB1.out.fut (w' := W2b)).lt
  go_wp2_with (first | (go_at_call 13; (with_reducible refine (NM.out _ _).mono ?_); rintro e w6 ⟨rfl, rfl⟩) | (go_at_call 18; (with_reducible refine (DC.out _).mono ?_); rintro e w5 ⟨rfl, hs5⟩; clear y0 y1 y2 y3 y4 y5 ly; obtain ⟨y0, y1, y2, y3, y4, y5⟩ := At.z6 (HB1.out.fut (w' := w5)).at0; have ly := (HB1.out.fut (w' := w5)).lt))
  go_ret
  exact ⟨rfl, Step.of⟩
end Go.Proofs.YtoibfefalflooaaDoor
