/-
  The program's Put.
-/
import Derived.Test.YtoibfefalflooaaDoorJe
import Derived.Test.YtoibfefalflooaaDoorYrj
import Derived.Test.YtoibfefalflooaaDoorDecl
import Derived.Deep.RegionHeld3
import Derived.Deep.RegionLaw
import Derived.Deep.Cut
import Derived.Deep.CutBlock
namespace Go.Proofs.YtoibfefalflooaaDoor
open Go.RowKit

/-- What Put answers. -/
def PutR (r : Option (List UInt8)) (e : Ending) : Prop :=
  match r with
  | some l => e = .returned (.tuple #[.string (ofL l), .int .i64 0])
  | none => e = .returned (.tuple #[.string ⟨#[]⟩, .int .i64 200])
theorem bits_nat_or (a b : Nat) (ha : a < 9223372036854775808) (hb : b < 9223372036854775808) : bits .or .i64 (a : Int) (b : Int) = ((a ||| b : Nat) : Int) := by
  show IntKind.i64.wrap ((BitVec.ofInt 64 (a : Int) ||| BitVec.ofInt 64 (b : Int)).toNat : Int) = _
  have e1 : (BitVec.ofInt 64 (a : Int)).toNat = a := by rw [BitVec.toNat_ofInt]; omega
  have e2 : (BitVec.ofInt 64 (b : Int)).toNat = b := by rw [BitVec.toNat_ofInt]; omega
  have h : a ||| b < 2 ^ 63 := Nat.or_lt_two_pow (by omega) (by omega)
  rw [BitVec.toNat_or, e1, e2, IntKind.wrap_i64]
  omega
theorem bits_nat_and (a b : Nat) (ha : a < 9223372036854775808) (hb : b < 9223372036854775808) : bits .and .i64 (a : Int) (b : Int) = ((a &&& b : Nat) : Int) := by
  show IntKind.i64.wrap ((BitVec.ofInt 64 (a : Int) &&& BitVec.ofInt 64 (b : Int)).toNat : Int) = _
  have e1 : (BitVec.ofInt 64 (a : Int)).toNat = a := by rw [BitVec.toNat_ofInt]; omega
  have e2 : (BitVec.ofInt 64 (b : Int)).toNat = b := by rw [BitVec.toNat_ofInt]; omega
  have h : a &&& b < 2 ^ 63 := Nat.and_lt_two_pow _ (by omega)
  rw [BitVec.toNat_and, e1, e2, IntKind.wrap_i64]
  omega
theorem low6 {q : Int} (h0 : 0 ≤ q) (h1 : q < 9223372036854775808) : bits .or .i64 128 (bits .and .i64 q 63) = 128 + q % 64 := by
  obtain ⟨a, rfl⟩ : ∃ a : Nat, q = a := ⟨q.toNat, by omega⟩
  have e1 := bits_nat_and a 63 (by omega) (by decide)
  rw [show ((63 : Nat) : Int) = 63 from rfl] at e1
  rw [e1, show (a &&& 63) = a % 64 from Nat.and_two_pow_sub_one_eq_mod a 6]
  have e2 := bits_nat_or 128 (a % 64) (by decide) (by omega)
  rw [show ((128 : Nat) : Int) = 128 from rfl] at e2
  rw [e2]
  have e3 := Nat.shiftLeft_add_eq_or_of_lt (b := a % 64) (i := 7) (by have := Nat.mod_lt a (show 0 < 64 by decide); omega) 1
  rw [show (128 : Nat) = 1 <<< 7 from rfl, ← e3]
  show ((128 + a % 64 : Nat) : Int) = _
  omega
theorem head_or (h k : Nat) {q : Int} (e : h <<< k < 256) (h0 : 0 ≤ q) (h1 : q < 2 ^ k) (hk : k < 8) : bits .or .i64 ((h <<< k : Nat) : Int) q = ((h <<< k : Nat) : Int) + q := by
  obtain ⟨a, rfl⟩ : ∃ a : Nat, q = a := ⟨q.toNat, by omega⟩
  have ha : a < 2 ^ k := by exact_mod_cast h1
  have hb : (2 : Nat) ^ k ≤ 2 ^ 8 := Nat.pow_le_pow_right (by decide) (by omega)
  rw [bits_nat_or _ _ (by omega) (by omega), ← Nat.shiftLeft_add_eq_or_of_lt ha]
  simp

set_option maxRecDepth 100000 in
set_option maxHeartbeats 8000000 in
theorem put1 (R : Int) (w : World) (hm : mayR R = true) (h0 : 0 ≤ R) (h1 : R ≤ 127) :
    Calls Tryd.prog 63 #[.int .i64 R] w fun e w' => PutR (putR R) e ∧ Step w w' := by
  have FM := forms_any
  unfold formsV at FM
  have FM := hide FM
  have MY := hide umay_any
  have hmm : ¬ (R < 0 ∨ 1114111 < R ∨ (55296 ≤ R ∧ R ≤ 57343)) := by have := hm; simp [mayR] at this; omega
  have lh : bits .or .i64 0 R = R := by have h := head_or 0 7 (q := R) (by decide) (by omega) (by omega) (by decide); simpa using h
  obtain ⟨dh, fh⟩ : ∃ d : UInt8, (d.toNat : Int) = R := ⟨UInt8.ofNat (R).toNat, by simp; omega⟩
  have uh : IntKind.u8.wrap (R) = (dh.toNat : Int) := by rw [IntKind.wrap_u8]; omega
  have HP : Hid (putR R = some [dh]) := by
    show _ = _
    rw [putR, if_neg hmm, if_pos (by omega)]
    congr 1
    simp only [List.cons.injEq, and_true]
    all_goals apply UInt8.toNat_inj.1; simp; omega
  clear hmm fh 
  go_enter Tryd.func63, Tryd.ntmps63
  go_wp2_with (first | (go_at_call 65; (with_reducible refine (MY.out _ _).mono ?_); rintro e w1 ⟨rfl, hs1⟩; rw [hm]) | (go_at_call 64; (with_reducible refine (FM.out _).mono ?_); rintro e w2 ⟨rfl, hs2⟩))
  obtain ⟨X, hX⟩ : ∃ X : World, X = w2.alloc (.cells [.int .i64 0, .int .i64 0, .int .i64 0, .int .i64 128, .int .i64 0, .int .i64 0, .int .i64 224, .int .i64 192, .int .i64 128, .int .i64 240, .int .i64 224, .int .i64 2048, .int .i64 248, .int .i64 240, .int .i64 65536].toArray 90) := ⟨_, rfl⟩
  have FB := Blk.new w2 [.int .i64 0, .int .i64 0, .int .i64 0, .int .i64 128, .int .i64 0, .int .i64 0, .int .i64 224, .int .i64 192, .int .i64 128, .int .i64 240, .int .i64 224, .int .i64 2048, .int .i64 248, .int .i64 240, .int .i64 65536] 90
  obtain ⟨fb, hfb⟩ : ∃ n, w2.heap.size = n := ⟨_, rfl⟩
  rw [← hX] at FB
  rw [hfb] at FB
  have hsX : Step w X := by rw [hX]; exact Step.of
  have hzX := hsX.size
  rw [← hX]
  rw [hfb]
  have FBH := hide FB
  have lfb := FB.lt
  clear hX hfb FB
  go_loopw [5] (fun t wr => ∃ n : Nat, 1 ≤ n ∧ n ≤ 4 ∧ t = .int .i64 n ∧ wr = X) (fun t _ => (intOf t).toNat)
  case atStart => exact ⟨4, by omega, by omega, by first | rfl | trivial, by first | rfl | trivial⟩
  case round =>
    obtain ⟨n, hn1, hn2, rfl, rfl⟩ := hrel
    obtain ⟨X, rfl⟩ : ∃ x : World, x = wr := ⟨_, rfl⟩
    have lfb := FBH.out.lt
    rcases (show n = 4 ∨ n < 4 by omega) with rfl | hn
    · have q1 : X.cell? ⟨fb, 14, none⟩ = some (.int .i64 65536) := by simpa using FBH.out.at0 14 (.int .i64 65536) rfl
      have g : R < 65536 := by omega
      go_wp2_with fail
      go_roundw
      case rel => exact ⟨3, by omega, by omega, by first | rfl | trivial, by first | rfl | trivial⟩
      case measure => simp [intOf]
    rcases (show n = 3 ∨ n < 3 by omega) with rfl | hn
    · have q1 : X.cell? ⟨fb, 11, none⟩ = some (.int .i64 2048) := by simpa using FBH.out.at0 11 (.int .i64 2048) rfl
      have g : R < 2048 := by omega
      go_wp2_with fail
      go_roundw
      case rel => exact ⟨2, by omega, by omega, by first | rfl | trivial, by first | rfl | trivial⟩
      case measure => simp [intOf]
    rcases (show n = 2 ∨ n < 2 by omega) with rfl | hn
    · have q1 : X.cell? ⟨fb, 8, none⟩ = some (.int .i64 128) := by simpa using FBH.out.at0 8 (.int .i64 128) rfl
      have g : R < 128 := by omega
      go_wp2_with fail
      go_roundw
      case rel => exact ⟨1, by omega, by omega, by first | rfl | trivial, by first | rfl | trivial⟩
      case measure => simp [intOf]
    obtain rfl : n = 1 := by omega
    have q1 : X.cell? ⟨fb, 5, none⟩ = some (.int .i64 0) := by simpa using FBH.out.at0 5 (.int .i64 0) rfl
    have qh : X.cell? ⟨fb, 4, none⟩ = some (.int .i64 0) := by simpa using FBH.out.at0 4 (.int .i64 0) rfl
    have hmk : ∀ w : World, (Instr.makeSlice 47 (.int .i64 1) (.int .i64 1)).run Tryd.prog w = .ok (.slice (some ⟨w.heap.size, 0, none⟩) 1 1) (w.alloc (.cells #[.int .u8 0] 5)) := fun _ => by kernel_rfl
    have g : ¬ R < 0 := by omega
    go_wp2_with fail
    obtain ⟨Y, hY⟩ : ∃ Y : World, Y = X.alloc (.cells #[.int .u8 0] 5) := ⟨_, rfl⟩
    have FB2 : Hid (Blk Y fb 90 [.int .i64 0, .int .i64 0, .int .i64 0, .int .i64 128, .int .i64 0, .int .i64 0, .int .i64 224, .int .i64 192, .int .i64 128, .int .i64 240, .int .i64 224, .int .i64 2048, .int .i64 248, .int .i64 240, .int .i64 65536]) := by rw [hY]; exact FBH.out.alloc _
    have BB := Blk.new X [.int .u8 0] 5
    obtain ⟨bb, hbb⟩ : ∃ n, X.heap.size = n := ⟨_, rfl⟩
    rw [← hY] at BB
    rw [hbb] at BB
    have hsY : Step w Y := by rw [hY]; exact Step.of
    have hzY := hsY.size
    have lfb2 := FB2.out.lt
    rw [← hY]
    rw [hbb]
    have hne : fb < bb := by omega
    have hwb : w.heap.size ≤ bb := by omega
    have NW : Newer w bb := ⟨hwb⟩
    have BBH := hide BB
    have HSY := hide hsY
    clear hY hbb BB q1 qh hmk g hsY hzY lfb2 lfb
    go_loopw [0, 7] (fun rv iv wr => ((rv = .int .i64 R ∧ iv = .int .i64 0 ∧ Blk wr bb 5 [.int .u8 0])) ∧ Blk wr fb 90 [.int .i64 0, .int .i64 0, .int .i64 0, .int .i64 128, .int .i64 0, .int .i64 0, .int .i64 224, .int .i64 192, .int .i64 128, .int .i64 240, .int .i64 224, .int .i64 2048, .int .i64 248, .int .i64 240, .int .i64 65536] ∧ Step w wr) (fun _ iv _ => (intOf iv).toNat)
    case atStart => exact ⟨⟨by first | rfl | trivial, by first | rfl | trivial, BBH.out⟩, FB2.out, HSY.out⟩
    case round =>
      obtain ⟨hcs, hfb, hst⟩ := hrel
      clear FB2 BBH HSY
      have HF := hide hfb
      clear hfb
      obtain ⟨wo, rfl⟩ : ∃ x : World, x = wr := ⟨_, rfl⟩
      have hzo := hst.size
      obtain ⟨rfl, rfl, hb⟩ := hcs
      have HB := hide hb
      have lq := hb.lt
      have fq := hb.free
      have p0 := At.z1 hb.at0
      clear hb
      have qh : wo.cell? ⟨fb, 4, none⟩ = some (.int .i64 0) := by simpa using HF.out.at0 4 (.int .i64 0) rfl
      have lfo := HF.out.lt
      go_upto_region 14 with fail
      have hB2 := HB.out.set_ 0 (.int .u8 (dh.toNat : Int))
      have hO : Own (wo.setCell ⟨bb, 0, none⟩ (.int .u8 (dh.toNat : Int))) w.heap.size 5 1 (.slice (some ⟨bb, 0, none⟩) 1 1) (byteCells [dh]) := Own.of_blk (by simpa using hB2) hwb rfl (byte_fit _).len (Nat.le_refl _) (by decide) rfl rfl
      have hcv := bytes_conv (c := 1) (n := 1) (hO.sl (byte_fit _).len) rfl (by decide)
      clear hB2 hO
      go_wp2_with fail
      go_ret2
      exact ⟨by rw [HP.out]; rfl, Step.of⟩

set_option maxRecDepth 100000 in
set_option maxHeartbeats 8000000 in
theorem put2 (R : Int) (w : World) (hm : mayR R = true) (h0 : 128 ≤ R) (h1 : R ≤ 2047) :
    Calls Tryd.prog 63 #[.int .i64 R] w fun e w' => PutR (putR R) e ∧ Step w w' := by
  have FM := forms_any
  unfold formsV at FM
  have FM := hide FM
  have MY := hide umay_any
  have hmm : ¬ (R < 0 ∨ 1114111 < R ∨ (55296 ≤ R ∧ R ≤ 57343)) := by have := hm; simp [mayR] at this; omega
  obtain ⟨Q1, e1⟩ : ∃ q : Int, R / 64 = q := ⟨_, rfl⟩
  have l0 := low6 (q := R) (by omega) (by omega)
  obtain ⟨d0, f0⟩ : ∃ d : UInt8, (d.toNat : Int) = 128 + R % 64 := ⟨UInt8.ofNat (128 + R % 64).toNat, by simp; omega⟩
  have u0 : IntKind.u8.wrap (128 + R % 64) = (d0.toNat : Int) := by rw [IntKind.wrap_u8]; omega
  have lh : bits .or .i64 192 Q1 = 192 + Q1 := by have h := head_or 6 5 (q := Q1) (by decide) (by omega) (by omega) (by decide); simpa using h
  obtain ⟨dh, fh⟩ : ∃ d : UInt8, (d.toNat : Int) = 192 + Q1 := ⟨UInt8.ofNat (192 + Q1).toNat, by simp; omega⟩
  have uh : IntKind.u8.wrap (192 + Q1) = (dh.toNat : Int) := by rw [IntKind.wrap_u8]; omega
  have HP : Hid (putR R = some [dh, d0]) := by
    show _ = _
    rw [putR, if_neg hmm, if_neg (by omega), if_pos (by omega)]
    congr 1
    simp only [List.cons.injEq, and_true]
    refine ⟨?_, ?_⟩
    all_goals apply UInt8.toNat_inj.1; simp; omega
  clear hmm fh f0
  go_enter Tryd.func63, Tryd.ntmps63
  go_wp2_with (first | (go_at_call 65; (with_reducible refine (MY.out _ _).mono ?_); rintro e w1 ⟨rfl, hs1⟩; rw [hm]) | (go_at_call 64; (with_reducible refine (FM.out _).mono ?_); rintro e w2 ⟨rfl, hs2⟩))
  obtain ⟨X, hX⟩ : ∃ X : World, X = w2.alloc (.cells [.int .i64 0, .int .i64 0, .int .i64 0, .int .i64 128, .int .i64 0, .int .i64 0, .int .i64 224, .int .i64 192, .int .i64 128, .int .i64 240, .int .i64 224, .int .i64 2048, .int .i64 248, .int .i64 240, .int .i64 65536].toArray 90) := ⟨_, rfl⟩
  have FB := Blk.new w2 [.int .i64 0, .int .i64 0, .int .i64 0, .int .i64 128, .int .i64 0, .int .i64 0, .int .i64 224, .int .i64 192, .int .i64 128, .int .i64 240, .int .i64 224, .int .i64 2048, .int .i64 248, .int .i64 240, .int .i64 65536] 90
  obtain ⟨fb, hfb⟩ : ∃ n, w2.heap.size = n := ⟨_, rfl⟩
  rw [← hX] at FB
  rw [hfb] at FB
  have hsX : Step w X := by rw [hX]; exact Step.of
  have hzX := hsX.size
  rw [← hX]
  rw [hfb]
  have FBH := hide FB
  have lfb := FB.lt
  clear hX hfb FB
  go_loopw [5] (fun t wr => ∃ n : Nat, 2 ≤ n ∧ n ≤ 4 ∧ t = .int .i64 n ∧ wr = X) (fun t _ => (intOf t).toNat)
  case atStart => exact ⟨4, by omega, by omega, by first | rfl | trivial, by first | rfl | trivial⟩
  case round =>
    obtain ⟨n, hn1, hn2, rfl, rfl⟩ := hrel
    obtain ⟨X, rfl⟩ : ∃ x : World, x = wr := ⟨_, rfl⟩
    have lfb := FBH.out.lt
    rcases (show n = 4 ∨ n < 4 by omega) with rfl | hn
    · have q1 : X.cell? ⟨fb, 14, none⟩ = some (.int .i64 65536) := by simpa using FBH.out.at0 14 (.int .i64 65536) rfl
      have g : R < 65536 := by omega
      go_wp2_with fail
      go_roundw
      case rel => exact ⟨3, by omega, by omega, by first | rfl | trivial, by first | rfl | trivial⟩
      case measure => simp [intOf]
    rcases (show n = 3 ∨ n < 3 by omega) with rfl | hn
    · have q1 : X.cell? ⟨fb, 11, none⟩ = some (.int .i64 2048) := by simpa using FBH.out.at0 11 (.int .i64 2048) rfl
      have g : R < 2048 := by omega
      go_wp2_with fail
      go_roundw
      case rel => exact ⟨2, by omega, by omega, by first | rfl | trivial, by first | rfl | trivial⟩
      case measure => simp [intOf]
    obtain rfl : n = 2 := by omega
    have q1 : X.cell? ⟨fb, 8, none⟩ = some (.int .i64 128) := by simpa using FBH.out.at0 8 (.int .i64 128) rfl
    have qh : X.cell? ⟨fb, 7, none⟩ = some (.int .i64 192) := by simpa using FBH.out.at0 7 (.int .i64 192) rfl
    have hmk : ∀ w : World, (Instr.makeSlice 47 (.int .i64 2) (.int .i64 2)).run Tryd.prog w = .ok (.slice (some ⟨w.heap.size, 0, none⟩) 2 2) (w.alloc (.cells #[.int .u8 0, .int .u8 0] 5)) := fun _ => by kernel_rfl
    have g : ¬ R < 128 := by omega
    go_wp2_with fail
    obtain ⟨Y, hY⟩ : ∃ Y : World, Y = X.alloc (.cells #[.int .u8 0, .int .u8 0] 5) := ⟨_, rfl⟩
    have FB2 : Hid (Blk Y fb 90 [.int .i64 0, .int .i64 0, .int .i64 0, .int .i64 128, .int .i64 0, .int .i64 0, .int .i64 224, .int .i64 192, .int .i64 128, .int .i64 240, .int .i64 224, .int .i64 2048, .int .i64 248, .int .i64 240, .int .i64 65536]) := by rw [hY]; exact FBH.out.alloc _
    have BB := Blk.new X [.int .u8 0, .int .u8 0] 5
    obtain ⟨bb, hbb⟩ : ∃ n, X.heap.size = n := ⟨_, rfl⟩
    rw [← hY] at BB
    rw [hbb] at BB
    have hsY : Step w Y := by rw [hY]; exact Step.of
    have hzY := hsY.size
    have lfb2 := FB2.out.lt
    rw [← hY]
    rw [hbb]
    have hne : fb < bb := by omega
    have hwb : w.heap.size ≤ bb := by omega
    have NW : Newer w bb := ⟨hwb⟩
    have BBH := hide BB
    have HSY := hide hsY
    clear hY hbb BB q1 qh hmk g hsY hzY lfb2 lfb
    go_loopw [0, 7] (fun rv iv wr => ((rv = .int .i64 R ∧ iv = .int .i64 1 ∧ Blk wr bb 5 [.int .u8 0, .int .u8 0]) ∨ (rv = .int .i64 Q1 ∧ iv = .int .i64 0 ∧ Blk wr bb 5 [.int .u8 0, .int .u8 (d0.toNat : Int)])) ∧ Blk wr fb 90 [.int .i64 0, .int .i64 0, .int .i64 0, .int .i64 128, .int .i64 0, .int .i64 0, .int .i64 224, .int .i64 192, .int .i64 128, .int .i64 240, .int .i64 224, .int .i64 2048, .int .i64 248, .int .i64 240, .int .i64 65536] ∧ Step w wr) (fun _ iv _ => (intOf iv).toNat)
    case atStart => exact ⟨.inl (⟨by first | rfl | trivial, by first | rfl | trivial, BBH.out⟩), FB2.out, HSY.out⟩
    case round =>
      obtain ⟨hcs, hfb, hst⟩ := hrel
      clear FB2 BBH HSY
      have HF := hide hfb
      clear hfb
      obtain ⟨wo, rfl⟩ : ∃ x : World, x = wr := ⟨_, rfl⟩
      have hzo := hst.size
      rcases hcs with ⟨rfl, rfl, hb⟩ | ⟨rfl, rfl, hb⟩
      · have HB := hide hb
        have lq := hb.lt
        have fq := hb.free
        obtain ⟨p0, p1⟩ := At.z2 hb.at0
        clear hb
        go_wp2_with fail
        go_roundw
        case rel => exact ⟨.inr (⟨by first | rfl | trivial, by first | rfl | trivial, by have h := HB.out.set_ 1 (.int .u8 (d0.toNat : Int)); simpa using h⟩), HF.out.far (by show fb ≠ bb; omega) _, Step.of⟩
        case measure => simp [intOf]
      · have HB := hide hb
        have lq := hb.lt
        have fq := hb.free
        obtain ⟨p0, p1⟩ := At.z2 hb.at0
        clear hb
        have qh : wo.cell? ⟨fb, 7, none⟩ = some (.int .i64 192) := by simpa using HF.out.at0 7 (.int .i64 192) rfl
        have lfo := HF.out.lt
        go_upto_region 14 with fail
        have hB2 := HB.out.set_ 0 (.int .u8 (dh.toNat : Int))
        have hO : Own (wo.setCell ⟨bb, 0, none⟩ (.int .u8 (dh.toNat : Int))) w.heap.size 5 1 (.slice (some ⟨bb, 0, none⟩) 2 2) (byteCells [dh, d0]) := Own.of_blk (by simpa using hB2) hwb rfl (byte_fit _).len (Nat.le_refl _) (by decide) rfl rfl
        have hcv := bytes_conv (c := 2) (n := 2) (hO.sl (byte_fit _).len) rfl (by decide)
        clear hB2 hO
        go_wp2_with fail
        go_ret2
        exact ⟨by rw [HP.out]; rfl, Step.of⟩

set_option maxRecDepth 100000 in
set_option maxHeartbeats 8000000 in
theorem put3 (R : Int) (w : World) (hm : mayR R = true) (h0 : 2048 ≤ R) (h1 : R ≤ 65535) :
    Calls Tryd.prog 63 #[.int .i64 R] w fun e w' => PutR (putR R) e ∧ Step w w' := by
  have FM := forms_any
  unfold formsV at FM
  have FM := hide FM
  have MY := hide umay_any
  have hmm : ¬ (R < 0 ∨ 1114111 < R ∨ (55296 ≤ R ∧ R ≤ 57343)) := by have := hm; simp [mayR] at this; omega
  obtain ⟨Q1, e1⟩ : ∃ q : Int, R / 64 = q := ⟨_, rfl⟩
  obtain ⟨Q2, e2⟩ : ∃ q : Int, Q1 / 64 = q := ⟨_, rfl⟩
  have l0 := low6 (q := R) (by omega) (by omega)
  obtain ⟨d0, f0⟩ : ∃ d : UInt8, (d.toNat : Int) = 128 + R % 64 := ⟨UInt8.ofNat (128 + R % 64).toNat, by simp; omega⟩
  have u0 : IntKind.u8.wrap (128 + R % 64) = (d0.toNat : Int) := by rw [IntKind.wrap_u8]; omega
  have l1 := low6 (q := Q1) (by omega) (by omega)
  obtain ⟨d1, f1⟩ : ∃ d : UInt8, (d.toNat : Int) = 128 + Q1 % 64 := ⟨UInt8.ofNat (128 + Q1 % 64).toNat, by simp; omega⟩
  have u1 : IntKind.u8.wrap (128 + Q1 % 64) = (d1.toNat : Int) := by rw [IntKind.wrap_u8]; omega
  have lh : bits .or .i64 224 Q2 = 224 + Q2 := by have h := head_or 14 4 (q := Q2) (by decide) (by omega) (by omega) (by decide); simpa using h
  obtain ⟨dh, fh⟩ : ∃ d : UInt8, (d.toNat : Int) = 224 + Q2 := ⟨UInt8.ofNat (224 + Q2).toNat, by simp; omega⟩
  have uh : IntKind.u8.wrap (224 + Q2) = (dh.toNat : Int) := by rw [IntKind.wrap_u8]; omega
  have HP : Hid (putR R = some [dh, d1, d0]) := by
    show _ = _
    rw [putR, if_neg hmm, if_neg (by omega), if_neg (by omega), if_pos (by omega)]
    congr 1
    simp only [List.cons.injEq, and_true]
    refine ⟨?_, ?_, ?_⟩
    all_goals apply UInt8.toNat_inj.1; simp; omega
  clear hmm fh f0 f1
  go_enter Tryd.func63, Tryd.ntmps63
  go_wp2_with (first | (go_at_call 65; (with_reducible refine (MY.out _ _).mono ?_); rintro e w1 ⟨rfl, hs1⟩; rw [hm]) | (go_at_call 64; (with_reducible refine (FM.out _).mono ?_); rintro e w2 ⟨rfl, hs2⟩))
  obtain ⟨X, hX⟩ : ∃ X : World, X = w2.alloc (.cells [.int .i64 0, .int .i64 0, .int .i64 0, .int .i64 128, .int .i64 0, .int .i64 0, .int .i64 224, .int .i64 192, .int .i64 128, .int .i64 240, .int .i64 224, .int .i64 2048, .int .i64 248, .int .i64 240, .int .i64 65536].toArray 90) := ⟨_, rfl⟩
  have FB := Blk.new w2 [.int .i64 0, .int .i64 0, .int .i64 0, .int .i64 128, .int .i64 0, .int .i64 0, .int .i64 224, .int .i64 192, .int .i64 128, .int .i64 240, .int .i64 224, .int .i64 2048, .int .i64 248, .int .i64 240, .int .i64 65536] 90
  obtain ⟨fb, hfb⟩ : ∃ n, w2.heap.size = n := ⟨_, rfl⟩
  rw [← hX] at FB
  rw [hfb] at FB
  have hsX : Step w X := by rw [hX]; exact Step.of
  have hzX := hsX.size
  rw [← hX]
  rw [hfb]
  have FBH := hide FB
  have lfb := FB.lt
  clear hX hfb FB
  go_loopw [5] (fun t wr => ∃ n : Nat, 3 ≤ n ∧ n ≤ 4 ∧ t = .int .i64 n ∧ wr = X) (fun t _ => (intOf t).toNat)
  case atStart => exact ⟨4, by omega, by omega, by first | rfl | trivial, by first | rfl | trivial⟩
  case round =>
    obtain ⟨n, hn1, hn2, rfl, rfl⟩ := hrel
    obtain ⟨X, rfl⟩ : ∃ x : World, x = wr := ⟨_, rfl⟩
    have lfb := FBH.out.lt
    rcases (show n = 4 ∨ n < 4 by omega) with rfl | hn
    · have q1 : X.cell? ⟨fb, 14, none⟩ = some (.int .i64 65536) := by simpa using FBH.out.at0 14 (.int .i64 65536) rfl
      have g : R < 65536 := by omega
      go_wp2_with fail
      go_roundw
      case rel => exact ⟨3, by omega, by omega, by first | rfl | trivial, by first | rfl | trivial⟩
      case measure => simp [intOf]
    obtain rfl : n = 3 := by omega
    have q1 : X.cell? ⟨fb, 11, none⟩ = some (.int .i64 2048) := by simpa using FBH.out.at0 11 (.int .i64 2048) rfl
    have qh : X.cell? ⟨fb, 10, none⟩ = some (.int .i64 224) := by simpa using FBH.out.at0 10 (.int .i64 224) rfl
    have hmk : ∀ w : World, (Instr.makeSlice 47 (.int .i64 3) (.int .i64 3)).run Tryd.prog w = .ok (.slice (some ⟨w.heap.size, 0, none⟩) 3 3) (w.alloc (.cells #[.int .u8 0, .int .u8 0, .int .u8 0] 5)) := fun _ => by kernel_rfl
    have g : ¬ R < 2048 := by omega
    go_wp2_with fail
    obtain ⟨Y, hY⟩ : ∃ Y : World, Y = X.alloc (.cells #[.int .u8 0, .int .u8 0, .int .u8 0] 5) := ⟨_, rfl⟩
    have FB2 : Hid (Blk Y fb 90 [.int .i64 0, .int .i64 0, .int .i64 0, .int .i64 128, .int .i64 0, .int .i64 0, .int .i64 224, .int .i64 192, .int .i64 128, .int .i64 240, .int .i64 224, .int .i64 2048, .int .i64 248, .int .i64 240, .int .i64 65536]) := by rw [hY]; exact FBH.out.alloc _
    have BB := Blk.new X [.int .u8 0, .int .u8 0, .int .u8 0] 5
    obtain ⟨bb, hbb⟩ : ∃ n, X.heap.size = n := ⟨_, rfl⟩
    rw [← hY] at BB
    rw [hbb] at BB
    have hsY : Step w Y := by rw [hY]; exact Step.of
    have hzY := hsY.size
    have lfb2 := FB2.out.lt
    rw [← hY]
    rw [hbb]
    have hne : fb < bb := by omega
    have hwb : w.heap.size ≤ bb := by omega
    have NW : Newer w bb := ⟨hwb⟩
    have BBH := hide BB
    have HSY := hide hsY
    clear hY hbb BB q1 qh hmk g hsY hzY lfb2 lfb
    go_loopw [0, 7] (fun rv iv wr => ((rv = .int .i64 R ∧ iv = .int .i64 2 ∧ Blk wr bb 5 [.int .u8 0, .int .u8 0, .int .u8 0]) ∨ (rv = .int .i64 Q1 ∧ iv = .int .i64 1 ∧ Blk wr bb 5 [.int .u8 0, .int .u8 0, .int .u8 (d0.toNat : Int)]) ∨ (rv = .int .i64 Q2 ∧ iv = .int .i64 0 ∧ Blk wr bb 5 [.int .u8 0, .int .u8 (d1.toNat : Int), .int .u8 (d0.toNat : Int)])) ∧ Blk wr fb 90 [.int .i64 0, .int .i64 0, .int .i64 0, .int .i64 128, .int .i64 0, .int .i64 0, .int .i64 224, .int .i64 192, .int .i64 128, .int .i64 240, .int .i64 224, .int .i64 2048, .int .i64 248, .int .i64 240, .int .i64 65536] ∧ Step w wr) (fun _ iv _ => (intOf iv).toNat)
    case atStart => exact ⟨.inl (⟨by first | rfl | trivial, by first | rfl | trivial, BBH.out⟩), FB2.out, HSY.out⟩
    case round =>
      obtain ⟨hcs, hfb, hst⟩ := hrel
      clear FB2 BBH HSY
      have HF := hide hfb
      clear hfb
      obtain ⟨wo, rfl⟩ : ∃ x : World, x = wr := ⟨_, rfl⟩
      have hzo := hst.size
      rcases hcs with ⟨rfl, rfl, hb⟩ | ⟨rfl, rfl, hb⟩ | ⟨rfl, rfl, hb⟩
      · have HB := hide hb
        have lq := hb.lt
        have fq := hb.free
        obtain ⟨p0, p1, p2⟩ := At.z3 hb.at0
        clear hb
        go_wp2_with fail
        go_roundw
        case rel => exact ⟨.inr (.inl (⟨by first | rfl | trivial, by first | rfl | trivial, by have h := HB.out.set_ 2 (.int .u8 (d0.toNat : Int)); simpa using h⟩)), HF.out.far (by show fb ≠ bb; omega) _, Step.of⟩
        case measure => simp [intOf]
      · have HB := hide hb
        have lq := hb.lt
        have fq := hb.free
        obtain ⟨p0, p1, p2⟩ := At.z3 hb.at0
        clear hb
        go_wp2_with fail
        go_roundw
        case rel => exact ⟨.inr (.inr (⟨by first | rfl | trivial, by first | rfl | trivial, by have h := HB.out.set_ 1 (.int .u8 (d1.toNat : Int)); simpa using h⟩)), HF.out.far (by show fb ≠ bb; omega) _, Step.of⟩
        case measure => simp [intOf]
      · have HB := hide hb
        have lq := hb.lt
        have fq := hb.free
        obtain ⟨p0, p1, p2⟩ := At.z3 hb.at0
        clear hb
        have qh : wo.cell? ⟨fb, 10, none⟩ = some (.int .i64 224) := by simpa using HF.out.at0 10 (.int .i64 224) rfl
        have lfo := HF.out.lt
        go_upto_region 14 with fail
        have hB2 := HB.out.set_ 0 (.int .u8 (dh.toNat : Int))
        have hO : Own (wo.setCell ⟨bb, 0, none⟩ (.int .u8 (dh.toNat : Int))) w.heap.size 5 1 (.slice (some ⟨bb, 0, none⟩) 3 3) (byteCells [dh, d1, d0]) := Own.of_blk (by simpa using hB2) hwb rfl (byte_fit _).len (Nat.le_refl _) (by decide) rfl rfl
        have hcv := bytes_conv (c := 3) (n := 3) (hO.sl (byte_fit _).len) rfl (by decide)
        clear hB2 hO
        go_wp2_with fail
        go_ret2
        exact ⟨by rw [HP.out]; rfl, Step.of⟩

set_option maxRecDepth 100000 in
set_option maxHeartbeats 8000000 in
theorem put4 (R : Int) (w : World) (hm : mayR R = true) (h0 : 65536 ≤ R) (h1 : R ≤ 1114111) :
    Calls Tryd.prog 63 #[.int .i64 R] w fun e w' => PutR (putR R) e ∧ Step w w' := by
  have FM := forms_any
  unfold formsV at FM
  have FM := hide FM
  have MY := hide umay_any
  have hmm : ¬ (R < 0 ∨ 1114111 < R ∨ (55296 ≤ R ∧ R ≤ 57343)) := by have := hm; simp [mayR] at this; omega
  obtain ⟨Q1, e1⟩ : ∃ q : Int, R / 64 = q := ⟨_, rfl⟩
  obtain ⟨Q2, e2⟩ : ∃ q : Int, Q1 / 64 = q := ⟨_, rfl⟩
  obtain ⟨Q3, e3⟩ : ∃ q : Int, Q2 / 64 = q := ⟨_, rfl⟩
  have l0 := low6 (q := R) (by omega) (by omega)
  obtain ⟨d0, f0⟩ : ∃ d : UInt8, (d.toNat : Int) = 128 + R % 64 := ⟨UInt8.ofNat (128 + R % 64).toNat, by simp; omega⟩
  have u0 : IntKind.u8.wrap (128 + R % 64) = (d0.toNat : Int) := by rw [IntKind.wrap_u8]; omega
  have l1 := low6 (q := Q1) (by omega) (by omega)
  obtain ⟨d1, f1⟩ : ∃ d : UInt8, (d.toNat : Int) = 128 + Q1 % 64 := ⟨UInt8.ofNat (128 + Q1 % 64).toNat, by simp; omega⟩
  have u1 : IntKind.u8.wrap (128 + Q1 % 64) = (d1.toNat : Int) := by rw [IntKind.wrap_u8]; omega
  have l2 := low6 (q := Q2) (by omega) (by omega)
  obtain ⟨d2, f2⟩ : ∃ d : UInt8, (d.toNat : Int) = 128 + Q2 % 64 := ⟨UInt8.ofNat (128 + Q2 % 64).toNat, by simp; omega⟩
  have u2 : IntKind.u8.wrap (128 + Q2 % 64) = (d2.toNat : Int) := by rw [IntKind.wrap_u8]; omega
  have lh : bits .or .i64 240 Q3 = 240 + Q3 := by have h := head_or 30 3 (q := Q3) (by decide) (by omega) (by omega) (by decide); simpa using h
  obtain ⟨dh, fh⟩ : ∃ d : UInt8, (d.toNat : Int) = 240 + Q3 := ⟨UInt8.ofNat (240 + Q3).toNat, by simp; omega⟩
  have uh : IntKind.u8.wrap (240 + Q3) = (dh.toNat : Int) := by rw [IntKind.wrap_u8]; omega
  have HP : Hid (putR R = some [dh, d2, d1, d0]) := by
    show _ = _
    rw [putR, if_neg hmm, if_neg (by omega), if_neg (by omega), if_neg (by omega)]
    congr 1
    simp only [List.cons.injEq, and_true]
    refine ⟨?_, ?_, ?_, ?_⟩
    all_goals apply UInt8.toNat_inj.1; simp; omega
  clear hmm fh f0 f1 f2
  go_enter Tryd.func63, Tryd.ntmps63
  go_wp2_with (first | (go_at_call 65; (with_reducible refine (MY.out _ _).mono ?_); rintro e w1 ⟨rfl, hs1⟩; rw [hm]) | (go_at_call 64; (with_reducible refine (FM.out _).mono ?_); rintro e w2 ⟨rfl, hs2⟩))
  obtain ⟨X, hX⟩ : ∃ X : World, X = w2.alloc (.cells [.int .i64 0, .int .i64 0, .int .i64 0, .int .i64 128, .int .i64 0, .int .i64 0, .int .i64 224, .int .i64 192, .int .i64 128, .int .i64 240, .int .i64 224, .int .i64 2048, .int .i64 248, .int .i64 240, .int .i64 65536].toArray 90) := ⟨_, rfl⟩
  have FB := Blk.new w2 [.int .i64 0, .int .i64 0, .int .i64 0, .int .i64 128, .int .i64 0, .int .i64 0, .int .i64 224, .int .i64 192, .int .i64 128, .int .i64 240, .int .i64 224, .int .i64 2048, .int .i64 248, .int .i64 240, .int .i64 65536] 90
  obtain ⟨fb, hfb⟩ : ∃ n, w2.heap.size = n := ⟨_, rfl⟩
  rw [← hX] at FB
  rw [hfb] at FB
  have hsX : Step w X := by rw [hX]; exact Step.of
  have hzX := hsX.size
  rw [← hX]
  rw [hfb]
  have FBH := hide FB
  have lfb := FB.lt
  clear hX hfb FB
  go_loopw [5] (fun t wr => ∃ n : Nat, 4 ≤ n ∧ n ≤ 4 ∧ t = .int .i64 n ∧ wr = X) (fun t _ => (intOf t).toNat)
  case atStart => exact ⟨4, by omega, by omega, by first | rfl | trivial, by first | rfl | trivial⟩
  case round =>
    obtain ⟨n, hn1, hn2, rfl, rfl⟩ := hrel
    obtain ⟨X, rfl⟩ : ∃ x : World, x = wr := ⟨_, rfl⟩
    have lfb := FBH.out.lt
    obtain rfl : n = 4 := by omega
    have q1 : X.cell? ⟨fb, 14, none⟩ = some (.int .i64 65536) := by simpa using FBH.out.at0 14 (.int .i64 65536) rfl
    have qh : X.cell? ⟨fb, 13, none⟩ = some (.int .i64 240) := by simpa using FBH.out.at0 13 (.int .i64 240) rfl
    have hmk : ∀ w : World, (Instr.makeSlice 47 (.int .i64 4) (.int .i64 4)).run Tryd.prog w = .ok (.slice (some ⟨w.heap.size, 0, none⟩) 4 4) (w.alloc (.cells #[.int .u8 0, .int .u8 0, .int .u8 0, .int .u8 0] 5)) := fun _ => by kernel_rfl
    have g : ¬ R < 65536 := by omega
    go_wp2_with fail
    obtain ⟨Y, hY⟩ : ∃ Y : World, Y = X.alloc (.cells #[.int .u8 0, .int .u8 0, .int .u8 0, .int .u8 0] 5) := ⟨_, rfl⟩
    have FB2 : Hid (Blk Y fb 90 [.int .i64 0, .int .i64 0, .int .i64 0, .int .i64 128, .int .i64 0, .int .i64 0, .int .i64 224, .int .i64 192, .int .i64 128, .int .i64 240, .int .i64 224, .int .i64 2048, .int .i64 248, .int .i64 240, .int .i64 65536]) := by rw [hY]; exact FBH.out.alloc _
    have BB := Blk.new X [.int .u8 0, .int .u8 0, .int .u8 0, .int .u8 0] 5
    obtain ⟨bb, hbb⟩ : ∃ n, X.heap.size = n := ⟨_, rfl⟩
    rw [← hY] at BB
    rw [hbb] at BB
    have hsY : Step w Y := by rw [hY]; exact Step.of
    have hzY := hsY.size
    have lfb2 := FB2.out.lt
    rw [← hY]
    rw [hbb]
    have hne : fb < bb := by omega
    have hwb : w.heap.size ≤ bb := by omega
    have NW : Newer w bb := ⟨hwb⟩
    have BBH := hide BB
    have HSY := hide hsY
    clear hY hbb BB q1 qh hmk g hsY hzY lfb2 lfb
    go_loopw [0, 7] (fun rv iv wr => ((rv = .int .i64 R ∧ iv = .int .i64 3 ∧ Blk wr bb 5 [.int .u8 0, .int .u8 0, .int .u8 0, .int .u8 0]) ∨ (rv = .int .i64 Q1 ∧ iv = .int .i64 2 ∧ Blk wr bb 5 [.int .u8 0, .int .u8 0, .int .u8 0, .int .u8 (d0.toNat : Int)]) ∨ (rv = .int .i64 Q2 ∧ iv = .int .i64 1 ∧ Blk wr bb 5 [.int .u8 0, .int .u8 0, .int .u8 (d1.toNat : Int), .int .u8 (d0.toNat : Int)]) ∨ (rv = .int .i64 Q3 ∧ iv = .int .i64 0 ∧ Blk wr bb 5 [.int .u8 0, .int .u8 (d2.toNat : Int), .int .u8 (d1.toNat : Int), .int .u8 (d0.toNat : Int)])) ∧ Blk wr fb 90 [.int .i64 0, .int .i64 0, .int .i64 0, .int .i64 128, .int .i64 0, .int .i64 0, .int .i64 224, .int .i64 192, .int .i64 128, .int .i64 240, .int .i64 224, .int .i64 2048, .int .i64 248, .int .i64 240, .int .i64 65536] ∧ Step w wr) (fun _ iv _ => (intOf iv).toNat)
    case atStart => exact ⟨.inl (⟨by first | rfl | trivial, by first | rfl | trivial, BBH.out⟩), FB2.out, HSY.out⟩
    case round =>
      obtain ⟨hcs, hfb, hst⟩ := hrel
      clear FB2 BBH HSY
      have HF := hide hfb
      clear hfb
      obtain ⟨wo, rfl⟩ : ∃ x : World, x = wr := ⟨_, rfl⟩
      have hzo := hst.size
      rcases hcs with ⟨rfl, rfl, hb⟩ | ⟨rfl, rfl, hb⟩ | ⟨rfl, rfl, hb⟩ | ⟨rfl, rfl, hb⟩
      · have HB := hide hb
        have lq := hb.lt
        have fq := hb.free
        obtain ⟨p0, p1, p2, p3⟩ := At.z4 hb.at0
        clear hb
        go_wp2_with fail
        go_roundw
        case rel => exact ⟨.inr (.inl (⟨by first | rfl | trivial, by first | rfl | trivial, by have h := HB.out.set_ 3 (.int .u8 (d0.toNat : Int)); simpa using h⟩)), HF.out.far (by show fb ≠ bb; omega) _, Step.of⟩
        case measure => simp [intOf]
      · have HB := hide hb
        have lq := hb.lt
        have fq := hb.free
        obtain ⟨p0, p1, p2, p3⟩ := At.z4 hb.at0
        clear hb
        go_wp2_with fail
        go_roundw
        case rel => exact ⟨.inr (.inr (.inl (⟨by first | rfl | trivial, by first | rfl | trivial, by have h := HB.out.set_ 2 (.int .u8 (d1.toNat : Int)); simpa using h⟩))), HF.out.far (by show fb ≠ bb; omega) _, Step.of⟩
        case measure => simp [intOf]
      · have HB := hide hb
        have lq := hb.lt
        have fq := hb.free
        obtain ⟨p0, p1, p2, p3⟩ := At.z4 hb.at0
        clear hb
        go_wp2_with fail
        go_roundw
        case rel => exact ⟨.inr (.inr (.inr (⟨by first | rfl | trivial, by first | rfl | trivial, by have h := HB.out.set_ 1 (.int .u8 (d2.toNat : Int)); simpa using h⟩))), HF.out.far (by show fb ≠ bb; omega) _, Step.of⟩
        case measure => simp [intOf]
      · have HB := hide hb
        have lq := hb.lt
        have fq := hb.free
        obtain ⟨p0, p1, p2, p3⟩ := At.z4 hb.at0
        clear hb
        have qh : wo.cell? ⟨fb, 13, none⟩ = some (.int .i64 240) := by simpa using HF.out.at0 13 (.int .i64 240) rfl
        have lfo := HF.out.lt
        go_upto_region 14 with fail
        have hB2 := HB.out.set_ 0 (.int .u8 (dh.toNat : Int))
        have hO : Own (wo.setCell ⟨bb, 0, none⟩ (.int .u8 (dh.toNat : Int))) w.heap.size 5 1 (.slice (some ⟨bb, 0, none⟩) 4 4) (byteCells [dh, d2, d1, d0]) := Own.of_blk (by simpa using hB2) hwb rfl (byte_fit _).len (Nat.le_refl _) (by decide) rfl rfl
        have hcv := bytes_conv (c := 4) (n := 4) (hO.sl (byte_fit _).len) rfl (by decide)
        clear hB2 hO
        go_wp2_with fail
        go_ret2
        exact ⟨by rw [HP.out]; rfl, Step.of⟩

set_option maxRecDepth 100000 in
theorem put_any (R : Int) (w : World) : Calls Tryd.prog 63 #[.int .i64 R] w fun e w' => PutR (putR R) e ∧ Step w w' := by
  cases hm : mayR R with
  | true =>
    have hmm : 0 ≤ R ∧ R ≤ 1114111 := by have := hm; simp [mayR] at this; omega
    by_cases a : R ≤ 127
    · exact put1 R w hm hmm.1 a
    by_cases b : R ≤ 2047
    · exact put2 R w hm (by omega) b
    by_cases c : R ≤ 65535
    · exact put3 R w hm (by omega) c
    · exact put4 R w hm (by omega) hmm.2
  | false =>
    have HP : Hid (putR R = none) := by
      show _ = _
      rw [putR, if_pos]
      simp [mayR] at hm
      omega
    have MY := hide umay_any
    go_enter Tryd.func63, Tryd.ntmps63
    go_wp2_with (first | (go_at_call 65; (with_reducible refine (MY.out _ _).mono ?_); rintro e w1 ⟨rfl, hs1⟩; rw [hm]))
    go_ret2
    exact ⟨by rw [HP.out]; rfl, Step.of⟩
end Go.Proofs.YtoibfefalflooaaDoor
