/-
  The document's PutRune.
-/
import Derived.Test.YtoibfefalflooaaDoorF1
namespace Go.Proofs.YtoibfefalflooaaDoor
open Go.RowKit

set_option maxRecDepth 100000 in
set_option maxHeartbeats 8000000 in
theorem dput1 (R : Int) (w : World) (h0 : 0 ≤ R) (h1 : R ≤ 127) (_hm : ¬ (55296 ≤ R ∧ R ≤ 57343)) :
    Calls Tryd.prog 68 #[.int .i64 R] w fun e w' => PutR (putR R) e ∧ Step w w' := by
  have HP : Hid (putR R = some [UInt8.ofNat R.toNat]) := by
    show _ = _
    rw [putR, if_neg (by omega), if_pos (by omega)]
  have u0 : ((UInt8.ofNat (R.toNat)).toNat : Int) = R := by simp; omega
  have hsl := SlAt.new (w := w) (size := 1) (l := byteCells [UInt8.ofNat R.toNat]) (cs := [.int .u8 ((UInt8.ofNat (R.toNat)).toNat : Int)]) (t := 5) rfl (byte_fit _).len
  rw [u0] at hsl
  have hcv := bytes_conv (c := 1) (n := 1) hsl rfl (by decide)
  clear hsl u0
  obtain ⟨S, hS⟩ : ∃ S, (⟨([UInt8.ofNat R.toNat] : List UInt8).toArray⟩ : ByteArray) = S := ⟨_, rfl⟩
  rw [hS] at hcv
  have HS : Hid (ofL [UInt8.ofNat R.toNat] = S) := hS
  clear hS
  have g0 : ¬ R < 0 := by omega
  have g1 : ¬ R > 1114111 := by omega
  have g2 : R < 128 := by omega
  have g3 : R < 2048 := by omega
  have g4 : R < 65536 := by omega
  have g5 : ¬ R ≥ 55296 := by omega
  go_enter Tryd.func68, Tryd.ntmps68
  go_wp2_with fail
  go_ret2
  exact ⟨by rw [HP.out]; show _ = Ending.returned (.tuple #[.string (ofL _), .int .i64 0]); rw [HS.out]; rfl, Step.of⟩
set_option maxRecDepth 100000 in
set_option maxHeartbeats 8000000 in
theorem dput2 (R : Int) (w : World) (h0 : 128 ≤ R) (h1 : R ≤ 2047) (_hm : ¬ (55296 ≤ R ∧ R ≤ 57343)) :
    Calls Tryd.prog 68 #[.int .i64 R] w fun e w' => PutR (putR R) e ∧ Step w w' := by
  have HP : Hid (putR R = some [UInt8.ofNat (192 + R.toNat / 64), UInt8.ofNat (128 + R.toNat % 64)]) := by
    show _ = _
    rw [putR, if_neg (by omega), if_neg (by omega), if_pos (by omega)]
  have u0 : ((UInt8.ofNat (192 + R.toNat / 64)).toNat : Int) = 192 + R / 64 := by simp; omega
  have u1 : ((UInt8.ofNat (128 + R.toNat % 64)).toNat : Int) = 128 + R % 64 := by simp; omega
  have hsl := SlAt.new (w := w) (size := 1) (l := byteCells [UInt8.ofNat (192 + R.toNat / 64), UInt8.ofNat (128 + R.toNat % 64)]) (cs := [.int .u8 ((UInt8.ofNat (192 + R.toNat / 64)).toNat : Int), .int .u8 ((UInt8.ofNat (128 + R.toNat % 64)).toNat : Int)]) (t := 5) rfl (byte_fit _).len
  rw [u0, u1] at hsl
  have hcv := bytes_conv (c := 2) (n := 2) hsl rfl (by decide)
  clear hsl u0 u1
  obtain ⟨S, hS⟩ : ∃ S, (⟨([UInt8.ofNat (192 + R.toNat / 64), UInt8.ofNat (128 + R.toNat % 64)] : List UInt8).toArray⟩ : ByteArray) = S := ⟨_, rfl⟩
  rw [hS] at hcv
  have HS : Hid (ofL [UInt8.ofNat (192 + R.toNat / 64), UInt8.ofNat (128 + R.toNat % 64)] = S) := hS
  clear hS
  have g0 : ¬ R < 0 := by omega
  have g1 : ¬ R > 1114111 := by omega
  have g2 : ¬ R < 128 := by omega
  have g3 : R < 2048 := by omega
  have g4 : R < 65536 := by omega
  have g5 : ¬ R ≥ 55296 := by omega
  go_enter Tryd.func68, Tryd.ntmps68
  go_wp2_with fail
  go_ret2
  exact ⟨by rw [HP.out]; show _ = Ending.returned (.tuple #[.string (ofL _), .int .i64 0]); rw [HS.out]; rfl, Step.of⟩
set_option maxRecDepth 100000 in
set_option maxHeartbeats 8000000 in
theorem dput3 (R : Int) (w : World) (h0 : 2048 ≤ R) (h1 : R ≤ 65535) (hm : ¬ (55296 ≤ R ∧ R ≤ 57343)) :
    Calls Tryd.prog 68 #[.int .i64 R] w fun e w' => PutR (putR R) e ∧ Step w w' := by
  have HP : Hid (putR R = some [UInt8.ofNat (224 + R.toNat / 4096), UInt8.ofNat (128 + R.toNat / 64 % 64), UInt8.ofNat (128 + R.toNat % 64)]) := by
    show _ = _
    rw [putR, if_neg (by omega), if_neg (by omega), if_neg (by omega), if_pos (by omega)]
  have u0 : ((UInt8.ofNat (224 + R.toNat / 4096)).toNat : Int) = 224 + R / 4096 := by simp; omega
  have u1 : ((UInt8.ofNat (128 + R.toNat / 64 % 64)).toNat : Int) = 128 + R / 64 % 64 := by simp; omega
  have u2 : ((UInt8.ofNat (128 + R.toNat % 64)).toNat : Int) = 128 + R % 64 := by simp; omega
  have hsl := SlAt.new (w := w) (size := 1) (l := byteCells [UInt8.ofNat (224 + R.toNat / 4096), UInt8.ofNat (128 + R.toNat / 64 % 64), UInt8.ofNat (128 + R.toNat % 64)]) (cs := [.int .u8 ((UInt8.ofNat (224 + R.toNat / 4096)).toNat : Int), .int .u8 ((UInt8.ofNat (128 + R.toNat / 64 % 64)).toNat : Int), .int .u8 ((UInt8.ofNat (128 + R.toNat % 64)).toNat : Int)]) (t := 5) rfl (byte_fit _).len
  rw [u0, u1, u2] at hsl
  have hcv := bytes_conv (c := 3) (n := 3) hsl rfl (by decide)
  clear hsl u0 u1 u2
  obtain ⟨S, hS⟩ : ∃ S, (⟨([UInt8.ofNat (224 + R.toNat / 4096), UInt8.ofNat (128 + R.toNat / 64 % 64), UInt8.ofNat (128 + R.toNat % 64)] : List UInt8).toArray⟩ : ByteArray) = S := ⟨_, rfl⟩
  rw [hS] at hcv
  have HS : Hid (ofL [UInt8.ofNat (224 + R.toNat / 4096), UInt8.ofNat (128 + R.toNat / 64 % 64), UInt8.ofNat (128 + R.toNat % 64)] = S) := hS
  clear hS
  have g0 : ¬ R < 0 := by omega
  have g1 : ¬ R > 1114111 := by omega
  have g2 : ¬ R < 128 := by omega
  have g3 : ¬ R < 2048 := by omega
  have g4 : R < 65536 := by omega
  have hq : ¬ R ≥ 55296 ∨ (R ≥ 55296 ∧ ¬ R ≤ 57343) := by omega
  clear hm
  rcases hq with q1 | ⟨q1, q2⟩
  all_goals
    go_enter Tryd.func68, Tryd.ntmps68
    go_wp2_with fail
    go_ret2
    exact ⟨by rw [HP.out]; show _ = Ending.returned (.tuple #[.string (ofL _), .int .i64 0]); rw [HS.out]; rfl, Step.of⟩
set_option maxRecDepth 100000 in
set_option maxHeartbeats 8000000 in
theorem dput4 (R : Int) (w : World) (h0 : 65536 ≤ R) (h1 : R ≤ 1114111) (_hm : ¬ (55296 ≤ R ∧ R ≤ 57343)) :
    Calls Tryd.prog 68 #[.int .i64 R] w fun e w' => PutR (putR R) e ∧ Step w w' := by
  have HP : Hid (putR R = some [UInt8.ofNat (240 + R.toNat / 262144), UInt8.ofNat (128 + R.toNat / 4096 % 64), UInt8.ofNat (128 + R.toNat / 64 % 64), UInt8.ofNat (128 + R.toNat % 64)]) := by
    show _ = _
    rw [putR, if_neg (by omega), if_neg (by omega), if_neg (by omega), if_neg (by omega)]
  have u0 : ((UInt8.ofNat (240 + R.toNat / 262144)).toNat : Int) = 240 + R / 262144 := by simp; omega
  have u1 : ((UInt8.ofNat (128 + R.toNat / 4096 % 64)).toNat : Int) = 128 + R / 4096 % 64 := by simp; omega
  have u2 : ((UInt8.ofNat (128 + R.toNat / 64 % 64)).toNat : Int) = 128 + R / 64 % 64 := by simp; omega
  have u3 : ((UInt8.ofNat (128 + R.toNat % 64)).toNat : Int) = 128 + R % 64 := by simp; omega
  have hsl := SlAt.new (w := w) (size := 1) (l := byteCells [UInt8.ofNat (240 + R.toNat / 262144), UInt8.ofNat (128 + R.toNat / 4096 % 64), UInt8.ofNat (128 + R.toNat / 64 % 64), UInt8.ofNat (128 + R.toNat % 64)]) (cs := [.int .u8 ((UInt8.ofNat (240 + R.toNat / 262144)).toNat : Int), .int .u8 ((UInt8.ofNat (128 + R.toNat / 4096 % 64)).toNat : Int), .int .u8 ((UInt8.ofNat (128 + R.toNat / 64 % 64)).toNat : Int), .int .u8 ((UInt8.ofNat (128 + R.toNat % 64)).toNat : Int)]) (t := 5) rfl (byte_fit _).len
  rw [u0, u1, u2, u3] at hsl
  have hcv := bytes_conv (c := 4) (n := 4) hsl rfl (by decide)
  clear hsl u0 u1 u2 u3
  obtain ⟨S, hS⟩ : ∃ S, (⟨([UInt8.ofNat (240 + R.toNat / 262144), UInt8.ofNat (128 + R.toNat / 4096 % 64), UInt8.ofNat (128 + R.toNat / 64 % 64), UInt8.ofNat (128 + R.toNat % 64)] : List UInt8).toArray⟩ : ByteArray) = S := ⟨_, rfl⟩
  rw [hS] at hcv
  have HS : Hid (ofL [UInt8.ofNat (240 + R.toNat / 262144), UInt8.ofNat (128 + R.toNat / 4096 % 64), UInt8.ofNat (128 + R.toNat / 64 % 64), UInt8.ofNat (128 + R.toNat % 64)] = S) := hS
  clear hS
  have g0 : ¬ R < 0 := by omega
  have g1 : ¬ R > 1114111 := by omega
  have g2 : ¬ R < 128 := by omega
  have g3 : ¬ R < 2048 := by omega
  have g4 : ¬ R < 65536 := by omega
  have q1 : R ≥ 55296 := by omega
  have q2 : ¬ R ≤ 57343 := by omega
  go_enter Tryd.func68, Tryd.ntmps68
  go_wp2_with fail
  go_ret2
  exact ⟨by rw [HP.out]; show _ = Ending.returned (.tuple #[.string (ofL _), .int .i64 0]); rw [HS.out]; rfl, Step.of⟩
set_option maxRecDepth 100000 in
set_option maxHeartbeats 8000000 in
theorem dput_any (R : Int) (w : World) : Calls Tryd.prog 68 #[.int .i64 R] w fun e w' => PutR (putR R) e ∧ Step w w' := by
  by_cases hm : R < 0 ∨ 1114111 < R ∨ (55296 ≤ R ∧ R ≤ 57343)
  · have HP : Hid (putR R = none) := by show _ = _; rw [putR, if_pos hm]
    have hq : R < 0 ∨ (¬ R < 0 ∧ R > 1114111) ∨ (¬ R < 0 ∧ ¬ R > 1114111 ∧ R ≥ 55296 ∧ R ≤ 57343) := by omega
    clear hm
    rcases hq with q1 | ⟨q1, q2⟩ | ⟨q1, q2, q3, q4⟩
    all_goals
      go_enter Tryd.func68, Tryd.ntmps68
      go_wp2_with fail
      go_ret2
      exact ⟨by rw [HP.out]; rfl, Step.of⟩
  · by_cases a : R ≤ 127
    · exact dput1 R w (by omega) a (by omega)
    by_cases b : R ≤ 2047
    · exact dput2 R w (by omega) b (by omega)
    by_cases c : R ≤ 65535
    · exact dput3 R w (by omega) c (by omega)
    · exact dput4 R w (by omega) (by omega) (by omega)
end Go.Proofs.YtoibfefalflooaaDoor
