/-
  The law JsonBack.
-/
import Derived.Test.YtoibfefalflooaaDoorJ6
import Derived.Test.YtoibfefalflooaaDoorMw
namespace Go.Proofs.YtoibfefalflooaaDoor
open Go.RowKit

set_option maxRecDepth 100000 in
set_option maxHeartbeats 16000000 in
theorem jsonBack_any (j : J) (k1 : Int) (b1 : Bool) (n1 : Int) (s1 : ByteArray) (A1 : Option Addr) (nl1 c1 : Nat) (AK1 : Option Addr) (nk1 cK1 : Nat) (s : ByteArray) (w : World) (htb : Tab w) (hj : Rdd w j k1 b1 n1 s1 A1 nl1 c1 AK1 nk1 cK1) (hs : s.size ≤ 9223372036854775807) :
    Calls Tryd.prog 5 #[.agg #[.int .i64 k1, .bool b1, .int .i64 n1, .string s1, .slice A1 nl1 c1, .slice AK1 nk1 cK1], .string s] w fun e w' => e = .returned (.bool true) ∧ Step w w' := by
  have HTB := hide htb
  have AW : Hid (∀ w' (hf : Fut w w'), Calls Tryd.prog 14 #[] w' fun e w'' => e = .returned (.bool true) ∧ Step w' w'') := fun w' hf => awake3_any w' (Tab.fut htb)
  have HJ := hide hj
  have hfj := hj.fine
  have NM := hide num_any
  have PP : ∀ w' (hf : Fut w w'), Calls Tryd.prog 15 #[.agg #[.int .i64 k1, .bool b1, .int .i64 n1, .string s1, .slice A1 nl1 c1, .slice AK1 nk1 cK1]] w' fun e w'' => e = .returned (.tuple #[.string (printP j).1, .int .i64 (printP j).2]) ∧ Step w' w'' := fun w' hf => print_rdd w HJ.out w' (Tab.fut HTB.out)
  by_cases h0 : (printP j).2 = 0
  · obtain ⟨hb1, hb2⟩ := back_print hfj h0
    obtain ⟨oo, ho1, ho2⟩ := print_ok_inv h0
    have hTs : (printP j).1.size ≤ 65536 := by rw [ho2]; show (ofL oo).size ≤ _; rw [ofL_size]; exact prV_len ho1
    rw [h0] at PP
    have hp2 : (printP (norm j)).2 = 0 := by rw [hb2]; exact h0
    have hp1 : (printP (norm j)).1 = (printP j).1 := by rw [hb2]
    obtain ⟨tt, htt⟩ : ∃ tt, (printP j).1 = tt := ⟨_, rfl⟩
    rw [htt] at PP hb1 hTs hp1
    have PP := hide PP
    have PB := fun w' => parse_rdd tt w' (by omega)
    rw [hb1] at PB
    have PB : Hid (∀ w', Calls Tryd.prog 10 #[.string tt] w' fun e w'' => (∃ (k2 : Int) (b2 : Bool) (n2 : Int) (s2 : ByteArray) (A2 : Option Addr) (nl2 c2 : Nat) (AK2 : Option Addr) (nk2 cK2 : Nat), e = .returned (.tuple #[.agg #[.int .i64 k2, .bool b2, .int .i64 n2, .string s2, .slice A2 nl2 c2, .slice AK2 nk2 cK2], .int .i64 0]) ∧ Rdd w'' (norm j) k2 b2 n2 s2 A2 nl2 c2 AK2 nk2 cK2) ∧ Step w' w'') := PB
    have HP1 := hide hp1; have HP2 := hide hp2
    clear htb hj hfj h0 hb1 hb2 ho1 ho2 hp1 hp2 htt hTs
    go_enter Tryd.func5, Tryd.ntmps5
    obtain ⟨W1, hW1⟩ : ∃ W : World, W = w.alloc (.cells #[.int .i64 k1, .bool b1, .int .i64 n1, .string s1, .slice A1 nl1 c1, .slice AK1 nk1 cK1] 25) := ⟨_, rfl⟩
    have HB1 : Hid (Blk W1 w.heap.size 25 [.int .i64 k1, .bool b1, .int .i64 n1, .string s1, .slice A1 nl1 c1, .slice AK1 nk1 cK1]) := by rw [hW1]; exact Blk.new w _ 25
    have SW1 : Step w W1 := by rw [hW1]; exact Step.of
    go_upto_region 1 with fail
    rw [← hW1]
    clear hW1
    go_upto_region 3 with (go_at_call 14; (with_reducible refine (AW.out _ inferInstance).mono ?_); rintro e wa ⟨rfl, hsa⟩)
    obtain ⟨x0, x1, x2, x3, x4, x5⟩ := At.z6 (HB1.out.fut (w' := wa)).at0
    have lx := (HB1.out.fut (w' := wa)).lt
    go_upto_region 4 with (go_at_call 15; (with_reducible refine (PP.out _ inferInstance).mono ?_); rintro e w2 ⟨rfl, hs2⟩; clear x0 x1 x2 x3 x4 x5 lx)
    go_upto_region 6 with (first | (go_at_call 13; (with_reducible refine (NM.out _ _).mono ?_); rintro e wn ⟨rfl, rfl⟩) | (go_at_call 10; (with_reducible refine (PB.out _).mono ?_); rintro e w3 ⟨⟨k2, b2, n2, s2, A2, nl2, c2, AK2, nk2, cK2, rfl, hr2⟩, hs3⟩; have HR2 := hide hr2; clear hr2))
    obtain ⟨W2, hW2⟩ : ∃ W : World, W = w3.alloc (.cells #[.int .i64 k2, .bool b2, .int .i64 n2, .string s2, .slice A2 nl2 c2, .slice AK2 nk2 cK2] 25) := ⟨_, rfl⟩
    have HB2 : Hid (Blk W2 w3.heap.size 25 [.int .i64 k2, .bool b2, .int .i64 n2, .string s2, .slice A2 nl2 c2, .slice AK2 nk2 cK2]) := by rw [hW2]; exact Blk.new w3 _ 25
    have SW2 : Step w3 W2 := by rw [hW2]; exact Step.of
    rw [← hW2]
    clear hW2
    have PC : Hid (∀ w' (hf : Fut W2 w'), Calls Tryd.prog 15 #[.agg #[.int .i64 k2, .bool b2, .int .i64 n2, .string s2, .slice A2 nl2 c2, .slice AK2 nk2 cK2]] w' fun e w'' => e = .returned (.tuple #[.string tt, .int .i64 0]) ∧ Step w' w'') := fun w' hf => by
      have hst : Step W2 w' := ⟨hf.below⟩
      have h := print_rdd w3 HR2.out w' (Tab.fut (w := w) HTB.out)
      rw [HP1.out, HP2.out] at h
      exact h
    obtain ⟨x0, x1, x2, x3, x4, x5⟩ := At.z6 HB2.out.at0
    have lx := HB2.out.lt
    go_upto_region 9 with (first | (go_at_call 13; (with_reducible refine (NM.out _ _).mono ?_); rintro e wn ⟨rfl, rfl⟩) | (go_at_call 15; (with_reducible refine (PC.out _ inferInstance).mono ?_); rintro e w4 ⟨rfl, hs4⟩; clear x0 x1 x2 x3 x4 x5 lx))
    by_cases hf0 : (parseP s).2 = 0
    · have hbk := back_parse s
      have PA := fun w' => parse_rdd s w' hs
      rw [hf0] at PA
      obtain ⟨K, hK⟩ : ∃ K, (parseP s).1 = K := ⟨_, rfl⟩
      rw [hK] at PA hbk
      have PA : Hid (∀ w', Calls Tryd.prog 10 #[.string s] w' fun e w'' => (∃ (k3 : Int) (b3 : Bool) (n3 : Int) (s3 : ByteArray) (A3 : Option Addr) (nl3 c3 : Nat) (AK3 : Option Addr) (nk3 cK3 : Nat), e = .returned (.tuple #[.agg #[.int .i64 k3, .bool b3, .int .i64 n3, .string s3, .slice A3 nl3 c3, .slice AK3 nk3 cK3], .int .i64 0]) ∧ Rdd w'' K k3 b3 n3 s3 A3 nl3 c3 AK3 nk3 cK3) ∧ Step w' w'') := PA
      have HBK := hide hbk
      clear hbk hK hf0
      go_upto_region 10 with (go_at_call 10; (with_reducible refine (PA.out _).mono ?_); rintro e wp ⟨⟨k3, b3, n3, s3, A3, nl3, c3, AK3, nk3, cK3, rfl, hr3⟩, hsp⟩; have HR3 := hide hr3; clear hr3)
      obtain ⟨W3, hW3⟩ : ∃ W : World, W = wp.alloc (.cells #[.int .i64 k3, .bool b3, .int .i64 n3, .string s3, .slice A3 nl3 c3, .slice AK3 nk3 cK3] 25) := ⟨_, rfl⟩
      have HB3 : Hid (Blk W3 wp.heap.size 25 [.int .i64 k3, .bool b3, .int .i64 n3, .string s3, .slice A3 nl3 c3, .slice AK3 nk3 cK3]) := by rw [hW3]; exact Blk.new wp _ 25
      have SW3 : Step wp W3 := by rw [hW3]; exact Step.of
      rw [← hW3]
      clear hW3
      have PQ : ∀ w' (hf : Fut wp w'), Calls Tryd.prog 15 #[.agg #[.int .i64 k3, .bool b3, .int .i64 n3, .string s3, .slice A3 nl3 c3, .slice AK3 nk3 cK3]] w' fun e w'' => e = .returned (.tuple #[.string (printP K).1, .int .i64 (printP K).2]) ∧ Step w' w'' := fun w' hf => by
        have hst : Step wp w' := ⟨hf.below⟩
        exact print_rdd wp HR3.out w' (Tab.fut (w := w) HTB.out)
      obtain ⟨x0, x1, x2, x3, x4, x5⟩ := At.z6 HB3.out.at0
      have lx := HB3.out.lt
      obtain ⟨U, hU⟩ : ∃ U, (printP K).1 = U := ⟨_, rfl⟩
      have hUs : U.size ≤ 65536 := by
        rw [← hU]
        unfold printP
        cases hp : prV K 16 [] with
        | error e => exact Nat.zero_le _
        | ok o => show (ofL o).size ≤ _; rw [ofL_size]; exact prV_len hp
      rcases HBK.out with h2 | ⟨h2, h3⟩
      · rw [h2, hU] at PQ
        have PQ := hide PQ
        clear h2 hU hUs
        go_upto_region 13 with (first | (go_at_call 13; (with_reducible refine (NM.out _ _).mono ?_); rintro e wn ⟨rfl, rfl⟩) | (go_at_call 15; (with_reducible refine (PQ.out _ inferInstance).mono ?_); rintro e wq ⟨rfl, hsq⟩; clear x0 x1 x2 x3 x4 x5 lx))
        go_wp2_with (go_at_call 13; (with_reducible refine (NM.out _ _).mono ?_); rintro e wn ⟨rfl, rfl⟩)
        go_ret
        exact ⟨rfl, Step.of⟩
      · rw [h2, hU] at PQ
        rw [hU] at h3
        have PQ := hide PQ
        have PC := fun w' => parse_rdd U w' (by omega)
        rw [h3] at PC
        have PC : Hid (∀ w', Calls Tryd.prog 10 #[.string U] w' fun e w'' => (∃ (k4 : Int) (b4 : Bool) (n4 : Int) (s4 : ByteArray) (A4 : Option Addr) (nl4 c4 : Nat) (AK4 : Option Addr) (nk4 cK4 : Nat), e = .returned (.tuple #[.agg #[.int .i64 k4, .bool b4, .int .i64 n4, .string s4, .slice A4 nl4 c4, .slice AK4 nk4 cK4], .int .i64 0]) ∧ Rdd w'' K k4 b4 n4 s4 A4 nl4 c4 AK4 nk4 cK4) ∧ Step w' w'') := PC
        clear h2 h3 hU hUs
        go_upto_region 13 with (first | (go_at_call 13; (with_reducible refine (NM.out _ _).mono ?_); rintro e wn ⟨rfl, rfl⟩) | (go_at_call 15; (with_reducible refine (PQ.out _ inferInstance).mono ?_); rintro e wq ⟨rfl, hsq⟩; clear x0 x1 x2 x3 x4 x5 lx))
        go_upto_region 16 with (first | (go_at_call 13; (with_reducible refine (NM.out _ _).mono ?_); rintro e wn ⟨rfl, rfl⟩) | (go_at_call 10; (with_reducible refine (PC.out _).mono ?_); rintro e wr ⟨⟨k4, b4, n4, s4, A4, nl4, c4, AK4, nk4, cK4, rfl, hr4⟩, hsr⟩; have HR4 := hide hr4; clear hr4))
        obtain ⟨W4, hW4⟩ : ∃ W : World, W = wr.alloc (.cells #[.int .i64 k4, .bool b4, .int .i64 n4, .string s4, .slice A4 nl4 c4, .slice AK4 nk4 cK4] 25) := ⟨_, rfl⟩
        have HB4 : Hid (Blk W4 wr.heap.size 25 [.int .i64 k4, .bool b4, .int .i64 n4, .string s4, .slice A4 nl4 c4, .slice AK4 nk4 cK4]) := by rw [hW4]; exact Blk.new wr _ 25
        have SW4 : Step wr W4 := by rw [hW4]; exact Step.of
        rw [← hW4]
        clear hW4
        have SJ := hide (fun (w' : World) (h1 : Fut W4 w') => (by
          have hst3 : Step W4 w' := ⟨h1.below⟩
          exact same_rdd (j := K) wr wp HR4.out HR3.out w' : Calls Tryd.prog 12 #[.agg #[.int .i64 k4, .bool b4, .int .i64 n4, .string s4, .slice A4 nl4 c4, .slice AK4 nk4 cK4], .agg #[.int .i64 k3, .bool b3, .int .i64 n3, .string s3, .slice A3 nl3 c3, .slice AK3 nk3 cK3]] w' fun e w'' => e = .returned (.bool true) ∧ Step w' w''))
        obtain ⟨x0, x1, x2, x3, x4, x5⟩ := At.z6 (HB3.out.fut (w' := W4)).at0
        have lx := (HB3.out.fut (w' := W4)).lt
        obtain ⟨y0, y1, y2, y3, y4, y5⟩ := At.z6 HB4.out.at0
        have ly := HB4.out.lt
        go_wp2_with (first | (go_at_call 13; (with_reducible refine (NM.out _ _).mono ?_); rintro e wn ⟨rfl, rfl⟩) | (go_at_call 12; (with_reducible refine (SJ.out _ inferInstance).mono ?_); rintro e wt ⟨rfl, hst⟩; clear x0 x1 x2 x3 x4 x5 lx y0 y1 y2 y3 y4 y5 ly))
        go_ret
        exact ⟨rfl, Step.of⟩
    · have hz := parse_zero hf0
      have PA := fun w' => parse_rdd s w' hs
      rw [hz] at PA
      obtain ⟨fc, hfc⟩ : ∃ fc, (parseP s).2 = fc := ⟨_, rfl⟩
      rw [hfc] at PA hf0
      have hfn : (fc != 0) = true := bne_iff_ne.2 hf0
      have PA : Hid (∀ w', Calls Tryd.prog 10 #[.string s] w' fun e w'' => (∃ (k3 : Int) (b3 : Bool) (n3 : Int) (s3 : ByteArray) (A3 : Option Addr) (nl3 c3 : Nat) (AK3 : Option Addr) (nk3 cK3 : Nat), e = .returned (.tuple #[.agg #[.int .i64 k3, .bool b3, .int .i64 n3, .string s3, .slice A3 nl3 c3, .slice AK3 nk3 cK3], .int .i64 fc]) ∧ Rdd w'' J.zero k3 b3 n3 s3 A3 nl3 c3 AK3 nk3 cK3) ∧ Step w' w'') := PA
      clear hz hfc hf0
      go_upto_region 10 with (go_at_call 10; (with_reducible refine (PA.out _).mono ?_); rintro e wp ⟨⟨k3, b3, n3, s3, A3, nl3, c3, AK3, nk3, cK3, rfl, hr3⟩, hsp⟩; have HR3 := hide hr3; clear hr3)
      obtain ⟨W3, hW3⟩ : ∃ W : World, W = wp.alloc (.cells #[.int .i64 k3, .bool b3, .int .i64 n3, .string s3, .slice A3 nl3 c3, .slice AK3 nk3 cK3] 25) := ⟨_, rfl⟩
      have HB3 : Hid (Blk W3 wp.heap.size 25 [.int .i64 k3, .bool b3, .int .i64 n3, .string s3, .slice A3 nl3 c3, .slice AK3 nk3 cK3]) := by rw [hW3]; exact Blk.new wp _ 25
      have SW3 : Step wp W3 := by rw [hW3]; exact Step.of
      rw [← hW3]
      clear hW3
      have SJ := hide (fun (w' : World) (h1 : Fut wp w') => (by
        have hst3 : Step wp w' := ⟨h1.below⟩
        exact same_rdd (j := J.zero) wp wp HR3.out (Rdd.zero wp) w' : Calls Tryd.prog 12 #[.agg #[.int .i64 k3, .bool b3, .int .i64 n3, .string s3, .slice A3 nl3 c3, .slice AK3 nk3 cK3], .agg #[.int .i64 0, .bool false, .int .i64 0, .string ⟨#[]⟩, .slice none 0 0, .slice none 0 0]] w' fun e w'' => e = .returned (.bool true) ∧ Step w' w''))
      obtain ⟨x0, x1, x2, x3, x4, x5⟩ := At.z6 HB3.out.at0
      have lx := HB3.out.lt
      go_wp2_with (first | (go_at_call 13; (with_reducible refine (NM.out _ _).mono ?_); rintro e wn ⟨rfl, rfl⟩) | (go_at_call 12; (with_reducible refine (SJ.out _ inferInstance).mono ?_); rintro e wt ⟨rfl, hst⟩; clear x0 x1 x2 x3 x4 x5 lx))
      go_ret
      exact ⟨rfl, Step.of⟩
  · obtain ⟨pc, hpc⟩ : ∃ pc, (printP j).2 = pc := ⟨_, rfl⟩
    rw [hpc] at PP h0
    obtain ⟨tt, htt⟩ : ∃ tt, (printP j).1 = tt := ⟨_, rfl⟩
    rw [htt] at PP
    have PP := hide PP
    have hpn : (pc == 0) = false := beq_eq_false_iff_ne.2 h0
    clear htb hj hfj h0 hpc htt
    go_enter Tryd.func5, Tryd.ntmps5
    obtain ⟨W1, hW1⟩ : ∃ W : World, W = w.alloc (.cells #[.int .i64 k1, .bool b1, .int .i64 n1, .string s1, .slice A1 nl1 c1, .slice AK1 nk1 cK1] 25) := ⟨_, rfl⟩
    have HB1 : Hid (Blk W1 w.heap.size 25 [.int .i64 k1, .bool b1, .int .i64 n1, .string s1, .slice A1 nl1 c1, .slice AK1 nk1 cK1]) := by rw [hW1]; exact Blk.new w _ 25
    have SW1 : Step w W1 := by rw [hW1]; exact Step.of
    go_upto_region 1 with fail
    rw [← hW1]
    clear hW1
    go_upto_region 3 with (go_at_call 14; (with_reducible refine (AW.out _ inferInstance).mono ?_); rintro e wa ⟨rfl, hsa⟩)
    obtain ⟨x0, x1, x2, x3, x4, x5⟩ := At.z6 (HB1.out.fut (w' := wa)).at0
    have lx := (HB1.out.fut (w' := wa)).lt
    go_upto_region 4 with (go_at_call 15; (with_reducible refine (PP.out _ inferInstance).mono ?_); rintro e w2 ⟨rfl, hs2⟩; clear x0 x1 x2 x3 x4 x5 lx)
    go_upto_region 9 with (go_at_call 13; (with_reducible refine (NM.out _ _).mono ?_); rintro e wn ⟨rfl, rfl⟩)
    by_cases hf0 : (parseP s).2 = 0
    · have hbk := back_parse s
      have PA := fun w' => parse_rdd s w' hs
      rw [hf0] at PA
      obtain ⟨K, hK⟩ : ∃ K, (parseP s).1 = K := ⟨_, rfl⟩
      rw [hK] at PA hbk
      have PA : Hid (∀ w', Calls Tryd.prog 10 #[.string s] w' fun e w'' => (∃ (k3 : Int) (b3 : Bool) (n3 : Int) (s3 : ByteArray) (A3 : Option Addr) (nl3 c3 : Nat) (AK3 : Option Addr) (nk3 cK3 : Nat), e = .returned (.tuple #[.agg #[.int .i64 k3, .bool b3, .int .i64 n3, .string s3, .slice A3 nl3 c3, .slice AK3 nk3 cK3], .int .i64 0]) ∧ Rdd w'' K k3 b3 n3 s3 A3 nl3 c3 AK3 nk3 cK3) ∧ Step w' w'') := PA
      have HBK := hide hbk
      clear hbk hK hf0
      go_upto_region 10 with (go_at_call 10; (with_reducible refine (PA.out _).mono ?_); rintro e wp ⟨⟨k3, b3, n3, s3, A3, nl3, c3, AK3, nk3, cK3, rfl, hr3⟩, hsp⟩; have HR3 := hide hr3; clear hr3)
      obtain ⟨W3, hW3⟩ : ∃ W : World, W = wp.alloc (.cells #[.int .i64 k3, .bool b3, .int .i64 n3, .string s3, .slice A3 nl3 c3, .slice AK3 nk3 cK3] 25) := ⟨_, rfl⟩
      have HB3 : Hid (Blk W3 wp.heap.size 25 [.int .i64 k3, .bool b3, .int .i64 n3, .string s3, .slice A3 nl3 c3, .slice AK3 nk3 cK3]) := by rw [hW3]; exact Blk.new wp _ 25
      have SW3 : Step wp W3 := by rw [hW3]; exact Step.of
      rw [← hW3]
      clear hW3
      have PQ : ∀ w' (hf : Fut wp w'), Calls Tryd.prog 15 #[.agg #[.int .i64 k3, .bool b3, .int .i64 n3, .string s3, .slice A3 nl3 c3, .slice AK3 nk3 cK3]] w' fun e w'' => e = .returned (.tuple #[.string (printP K).1, .int .i64 (printP K).2]) ∧ Step w' w'' := fun w' hf => by
        have hst : Step wp w' := ⟨hf.below⟩
        exact print_rdd wp HR3.out w' (Tab.fut (w := w) HTB.out)
      obtain ⟨x0, x1, x2, x3, x4, x5⟩ := At.z6 HB3.out.at0
      have lx := HB3.out.lt
      obtain ⟨U, hU⟩ : ∃ U, (printP K).1 = U := ⟨_, rfl⟩
      have hUs : U.size ≤ 65536 := by
        rw [← hU]
        unfold printP
        cases hp : prV K 16 [] with
        | error e => exact Nat.zero_le _
        | ok o => show (ofL o).size ≤ _; rw [ofL_size]; exact prV_len hp
      rcases HBK.out with h2 | ⟨h2, h3⟩
      · rw [h2, hU] at PQ
        have PQ := hide PQ
        clear h2 hU hUs
        go_upto_region 13 with (first | (go_at_call 13; (with_reducible refine (NM.out _ _).mono ?_); rintro e wn ⟨rfl, rfl⟩) | (go_at_call 15; (with_reducible refine (PQ.out _ inferInstance).mono ?_); rintro e wq ⟨rfl, hsq⟩; clear x0 x1 x2 x3 x4 x5 lx))
        go_wp2_with (go_at_call 13; (with_reducible refine (NM.out _ _).mono ?_); rintro e wn ⟨rfl, rfl⟩)
        go_ret
        exact ⟨rfl, Step.of⟩
      · rw [h2, hU] at PQ
        rw [hU] at h3
        have PQ := hide PQ
        have PC := fun w' => parse_rdd U w' (by omega)
        rw [h3] at PC
        have PC : Hid (∀ w', Calls Tryd.prog 10 #[.string U] w' fun e w'' => (∃ (k4 : Int) (b4 : Bool) (n4 : Int) (s4 : ByteArray) (A4 : Option Addr) (nl4 c4 : Nat) (AK4 : Option Addr) (nk4 cK4 : Nat), e = .returned (.tuple #[.agg #[.int .i64 k4, .bool b4, .int .i64 n4, .string s4, .slice A4 nl4 c4, .slice AK4 nk4 cK4], .int .i64 0]) ∧ Rdd w'' K k4 b4 n4 s4 A4 nl4 c4 AK4 nk4 cK4) ∧ Step w' w'') := PC
        clear h2 h3 hU hUs
        go_upto_region 13 with (first | (go_at_call 13; (with_reducible refine (NM.out _ _).mono ?_); rintro e wn ⟨rfl, rfl⟩) | (go_at_call 15; (with_reducible refine (PQ.out _ inferInstance).mono ?_); rintro e wq ⟨rfl, hsq⟩; clear x0 x1 x2 x3 x4 x5 lx))
        go_upto_region 16 with (first | (go_at_call 13; (with_reducible refine (NM.out _ _).mono ?_); rintro e wn ⟨rfl, rfl⟩) | (go_at_call 10; (with_reducible refine (PC.out _).mono ?_); rintro e wr ⟨⟨k4, b4, n4, s4, A4, nl4, c4, AK4, nk4, cK4, rfl, hr4⟩, hsr⟩; have HR4 := hide hr4; clear hr4))
        obtain ⟨W4, hW4⟩ : ∃ W : World, W = wr.alloc (.cells #[.int .i64 k4, .bool b4, .int .i64 n4, .string s4, .slice A4 nl4 c4, .slice AK4 nk4 cK4] 25) := ⟨_, rfl⟩
        have HB4 : Hid (Blk W4 wr.heap.size 25 [.int .i64 k4, .bool b4, .int .i64 n4, .string s4, .slice A4 nl4 c4, .slice AK4 nk4 cK4]) := by rw [hW4]; exact Blk.new wr _ 25
        have SW4 : Step wr W4 := by rw [hW4]; exact Step.of
        rw [← hW4]
        clear hW4
        have SJ := hide (fun (w' : World) (h1 : Fut W4 w') => (by
          have hst3 : Step W4 w' := ⟨h1.below⟩
          exact same_rdd (j := K) wr wp HR4.out HR3.out w' : Calls Tryd.prog 12 #[.agg #[.int .i64 k4, .bool b4, .int .i64 n4, .string s4, .slice A4 nl4 c4, .slice AK4 nk4 cK4], .agg #[.int .i64 k3, .bool b3, .int .i64 n3, .string s3, .slice A3 nl3 c3, .slice AK3 nk3 cK3]] w' fun e w'' => e = .returned (.bool true) ∧ Step w' w''))
        obtain ⟨x0, x1, x2, x3, x4, x5⟩ := At.z6 (HB3.out.fut (w' := W4)).at0
        have lx := (HB3.out.fut (w' := W4)).lt
        obtain ⟨y0, y1, y2, y3, y4, y5⟩ := At.z6 HB4.out.at0
        have ly := HB4.out.lt
        go_wp2_with (first | (go_at_call 13; (with_reducible refine (NM.out _ _).mono ?_); rintro e wn ⟨rfl, rfl⟩) | (go_at_call 12; (with_reducible refine (SJ.out _ inferInstance).mono ?_); rintro e wt ⟨rfl, hst⟩; clear x0 x1 x2 x3 x4 x5 lx y0 y1 y2 y3 y4 y5 ly))
        go_ret
        exact ⟨rfl, Step.of⟩
    · have hz := parse_zero hf0
      have PA := fun w' => parse_rdd s w' hs
      rw [hz] at PA
      obtain ⟨fc, hfc⟩ : ∃ fc, (parseP s).2 = fc := ⟨_, rfl⟩
      rw [hfc] at PA hf0
      have hfn : (fc != 0) = true := bne_iff_ne.2 hf0
      have PA : Hid (∀ w', Calls Tryd.prog 10 #[.string s] w' fun e w'' => (∃ (k3 : Int) (b3 : Bool) (n3 : Int) (s3 : ByteArray) (A3 : Option Addr) (nl3 c3 : Nat) (AK3 : Option Addr) (nk3 cK3 : Nat), e = .returned (.tuple #[.agg #[.int .i64 k3, .bool b3, .int .i64 n3, .string s3, .slice A3 nl3 c3, .slice AK3 nk3 cK3], .int .i64 fc]) ∧ Rdd w'' J.zero k3 b3 n3 s3 A3 nl3 c3 AK3 nk3 cK3) ∧ Step w' w'') := PA
      clear hz hfc hf0
      go_upto_region 10 with (go_at_call 10; (with_reducible refine (PA.out _).mono ?_); rintro e wp ⟨⟨k3, b3, n3, s3, A3, nl3, c3, AK3, nk3, cK3, rfl, hr3⟩, hsp⟩; have HR3 := hide hr3; clear hr3)
      obtain ⟨W3, hW3⟩ : ∃ W : World, W = wp.alloc (.cells #[.int .i64 k3, .bool b3, .int .i64 n3, .string s3, .slice A3 nl3 c3, .slice AK3 nk3 cK3] 25) := ⟨_, rfl⟩
      have HB3 : Hid (Blk W3 wp.heap.size 25 [.int .i64 k3, .bool b3, .int .i64 n3, .string s3, .slice A3 nl3 c3, .slice AK3 nk3 cK3]) := by rw [hW3]; exact Blk.new wp _ 25
      have SW3 : Step wp W3 := by rw [hW3]; exact Step.of
      rw [← hW3]
      clear hW3
      have SJ := hide (fun (w' : World) (h1 : Fut wp w') => (by
        have hst3 : Step wp w' := ⟨h1.below⟩
        exact same_rdd (j := J.zero) wp wp HR3.out (Rdd.zero wp) w' : Calls Tryd.prog 12 #[.agg #[.int .i64 k3, .bool b3, .int .i64 n3, .string s3, .slice A3 nl3 c3, .slice AK3 nk3 cK3], .agg #[.int .i64 0, .bool false, .int .i64 0, .string ⟨#[]⟩, .slice none 0 0, .slice none 0 0]] w' fun e w'' => e = .returned (.bool true) ∧ Step w' w''))
      obtain ⟨x0, x1, x2, x3, x4, x5⟩ := At.z6 HB3.out.at0
      have lx := HB3.out.lt
      go_wp2_with (first | (go_at_call 13; (with_reducible refine (NM.out _ _).mono ?_); rintro e wn ⟨rfl, rfl⟩) | (go_at_call 12; (with_reducible refine (SJ.out _ inferInstance).mono ?_); rintro e wt ⟨rfl, hst⟩; clear x0 x1 x2 x3 x4 x5 lx))
      go_ret
      exact ⟨rfl, Step.of⟩
theorem jsonBack_t (t : T) (s : ByteArray) (w : World) (htb : Tab w) (h : RdT w t) (hs : s.size ≤ 9223372036854775807) :
    Calls Tryd.prog 5 #[.agg t.cells.toArray, .string s] w fun e w' => e = .returned (.bool true) ∧ Step w w' := by
  cases t with
  | mk k b n s2 A c l AK cK ks => exact jsonBack_any _ k b n s2 A l.length c AK ks.length cK s w htb ⟨l, ks, rfl, rfl, rfl, h⟩ hs
end Go.Proofs.YtoibfefalflooaaDoor
