/-
  Plain facts on texts of runes: the rune at a place, the first place that is none's beginning.
-/
import Derived.Test.YtfojdjmeefglcaaDoorData
import Derived.Laws.BitsAllLaws
namespace Go.Proofs.YtfojdjmeefglcaaDoor
open Go.RowKit

/-- A byte of UTF-8 that goes on: its six bits; -1: none. -/
def nextB (s : ByteArray) (i : Nat) : Int := if h : i < s.size then (if 128 ≤ s[i].toNat ∧ s[i].toNat ≤ 191 then (s[i].toNat : Int) - 128 else -1) else -1
/-- The rune of a first byte and what goes on. -/
def runeC (c a b d : Int) : Int × Int :=
  if c < 128 then (c, 1)
  else if c < 194 ∨ 244 < c then (0, 0)
  else if c < 224 ∧ 0 ≤ a then ((c - 192) * 64 + a, 2)
  else if 224 ≤ c ∧ c < 240 ∧ 0 ≤ a ∧ 0 ≤ b then (if 2048 ≤ (c - 224) * 4096 + a * 64 + b ∧ ((c - 224) * 4096 + a * 64 + b < 55296 ∨ 57343 < (c - 224) * 4096 + a * 64 + b) then ((c - 224) * 4096 + a * 64 + b, 3) else (0, 0))
  else if 240 ≤ c ∧ 0 ≤ a ∧ 0 ≤ b ∧ 0 ≤ d then (if 65536 ≤ (c - 240) * 262144 + a * 4096 + b * 64 + d ∧ (c - 240) * 262144 + a * 4096 + b * 64 + d ≤ 1114111 then ((c - 240) * 262144 + a * 4096 + b * 64 + d, 4) else (0, 0))
  else (0, 0)
/-- The rune at a place, and how many bytes it has. -/
def runeT (s : ByteArray) (i : Nat) : Int × Int := if h : i < s.size then runeC s[i].toNat (nextB s (i + 1)) (nextB s (i + 2)) (nextB s (i + 3)) else (0, 0)
def runeR (s : ByteArray) (at_ : Int) : Int × Int := if at_ < 0 then (0, 0) else runeT s at_.toNat

theorem nextB_lt {s : ByteArray} {i : Nat} (h : 0 ≤ nextB s i) : i < s.size := by
  unfold nextB at h
  split at h
  · assumption
  · omega
theorem nextB_bd (s : ByteArray) (i : Nat) : -1 ≤ nextB s i ∧ nextB s i < 64 := by
  unfold nextB
  split
  · split <;> omega
  · omega
theorem runeT_bd (s : ByteArray) (i : Nat) : 0 ≤ (runeT s i).2 ∧ (runeT s i).2 ≤ 4 ∧ (0 < (runeT s i).2 → i + (runeT s i).2.toNat ≤ s.size) := by
  unfold runeT
  split
  · rename_i hi
    have h1 : 0 ≤ nextB s (i + 1) → i + 1 < s.size := nextB_lt
    have h2 : 0 ≤ nextB s (i + 2) → i + 2 < s.size := nextB_lt
    have h3 : 0 ≤ nextB s (i + 3) → i + 3 < s.size := nextB_lt
    unfold runeC
    split
    · simp; omega
    split
    · simp
    split
    · simp; omega
    split
    · split <;> simp
      omega
    split
    · split <;> simp
      omega
    · simp
  · simp

/-- The first place that is no rune's beginning; -1: all are runes. -/
def firstN : Nat → ByteArray → Nat → Int
  | 0, _, _ => -1
  | f + 1, s, i => if i < s.size then (if (runeT s i).2 = 0 then (i : Int) else firstN f s (i + (runeT s i).2.toNat)) else -1
def firstR (s : ByteArray) : Int := firstN (s.size + 1) s 0
def validB (s : ByteArray) : Bool := decide (firstR s < 0)
theorem firstN_bd : ∀ (f : Nat) (s : ByteArray) (i : Nat), -1 ≤ firstN f s i ∧ firstN f s i < s.size ∨ firstN f s i = -1
  | 0, _, _ => .inr rfl
  | f + 1, s, i => by
    unfold firstN
    split
    · split
      · exact .inl ⟨by omega, by omega⟩
      · exact firstN_bd f s _
    · exact .inr rfl
theorem firstR_eq (s : ByteArray) : (firstR s == -1) = validB s := by
  unfold validB
  rcases firstN_bd (s.size + 1) s 0 with h | h
  · rw [show firstR s = firstN (s.size + 1) s 0 from rfl]
    by_cases e : firstN (s.size + 1) s 0 = -1
    · simp [e]
    · have : ¬ firstN (s.size + 1) s 0 < 0 := by omega
      simp [e, this]
  · rw [show firstR s = firstN (s.size + 1) s 0 from rfl, h]
    rfl

/-- The place behind the first so many runes. -/
def preN : Nat → ByteArray → Nat → Nat
  | 0, _, i => i
  | m + 1, s, i => if i < s.size then preN m s (i + (max (runeT s i).2 1).toNat) else i
theorem preN_stop {s : ByteArray} {i : Nat} (h : s.size ≤ i) : ∀ m, preN m s i = i
  | 0 => rfl
  | m + 1 => by unfold preN; rw [if_neg (by omega)]
theorem pre_step (s : ByteArray) (i : Nat) (h : i < s.size) : i + (max (runeT s i).2 1).toNat ≤ s.size := by
  obtain ⟨h1, h2, h3⟩ := runeT_bd s i
  by_cases e : 0 < (runeT s i).2
  · rw [show max (runeT s i).2 1 = (runeT s i).2 by omega]; exact h3 e
  · rw [show max (runeT s i).2 1 = 1 by omega]; simp; omega
theorem preN_le : ∀ (m : Nat) (s : ByteArray) (i : Nat), i ≤ s.size → preN m s i ≤ s.size
  | 0, _, _, h => h
  | m + 1, s, i, h => by
    unfold preN
    split
    · rename_i hi
      exact preN_le m s _ (pre_step s i hi)
    · exact h

/-! ### The forms of 1 to 4 bytes, as the program asks for them -/
def maskT : Nat → Int | 1 => 128 | 2 => 224 | 3 => 240 | 4 => 248 | _ => 0
def headT : Nat → Int | 1 => 0 | 2 => 192 | 3 => 224 | 4 => 240 | _ => 0
def leastT : Nat → Int | 2 => 128 | 3 => 2048 | 4 => 65536 | _ => 0
/-- Which form a first byte has; 5: none. -/
def formT (c : Nat) : Nat := if c < 128 then 1 else if c < 192 then 5 else if c < 224 then 2 else if c < 240 then 3 else if c < 248 then 4 else 5
theorem form_tests : ∀ c : Fin 256, ∀ k : Fin 5, (bits .and .i64 (c.val : Int) (maskT k.val) == headT k.val) = (k.val == 0 || k.val == formT c.val) := by decide +kernel
theorem form_test (c : UInt8) {k : Nat} (hk : k < 5) : (bits .and .i64 (c.toNat : Int) (maskT k) == headT k) = (k == 0 || k == formT c.toNat) := form_tests ⟨c.toNat, c.toNat_lt⟩ ⟨k, hk⟩
theorem form_rests : ∀ c : Fin 256, ∀ k : Fin 5, formT c.val = k.val → bits .andNot .i64 (c.val : Int) (maskT k.val) = (c.val : Int) - headT k.val := by decide +kernel
theorem form_rest (c : UInt8) {k : Nat} (hk : k < 5) (h : formT c.toNat = k) : bits .andNot .i64 (c.toNat : Int) (maskT k) = (c.toNat : Int) - headT k := form_rests ⟨c.toNat, c.toNat_lt⟩ ⟨k, hk⟩ h
theorem on_tests : ∀ c : Fin 256, (bits .and .u8 (c.val : Int) 192 == 128) = (decide (128 ≤ c.val) && decide (c.val ≤ 191)) ∧ bits .and .u8 (c.val : Int) 63 = ((c.val % 64 : Nat) : Int) := by decide +kernel
theorem on_test (c : UInt8) : (bits .and .u8 (c.toNat : Int) 192 == 128) = (decide (128 ≤ c.toNat) && decide (c.toNat ≤ 191)) ∧ bits .and .u8 (c.toNat : Int) 63 = ((c.toNat % 64 : Nat) : Int) := on_tests ⟨c.toNat, c.toNat_lt⟩
end Go.Proofs.YtfojdjmeefglcaaDoor
