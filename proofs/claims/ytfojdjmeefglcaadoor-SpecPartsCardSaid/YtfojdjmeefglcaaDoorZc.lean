/-
  Plain facts on sums: a table of all bytes tells what eight steps tell.
-/
import Derived.Test.YtfojdjmeefglcaaDoorData
import Derived.Laws.BitsAllLaws
namespace Go.Proofs.YtfojdjmeefglcaaDoor
open Go.RowKit

def stepC (x : Nat) : Nat := if x % 2 = 1 then (x / 2) ^^^ 3988292384 else x / 2
def stepsC : Nat → Nat → Nat
  | 0, x => x
  | k + 1, x => stepC (stepsC k x)
theorem stepC_xor (a b : Nat) : stepC (a ^^^ b) = stepC a ^^^ stepC b := by
  have h1 : (a ^^^ b) / 2 = a / 2 ^^^ b / 2 := by
    apply Nat.eq_of_testBit_eq
    intro i
    simp [Nat.testBit_div_two]
  have h2 : (a ^^^ b) % 2 = (a % 2 + b % 2) % 2 := by
    have e : ∀ x : Nat, x % 2 = (x.testBit 0).toNat := fun x => by
      rw [Nat.testBit_zero]
      rcases Nat.mod_two_eq_zero_or_one x with h | h <;> simp [h]
    rw [e (a ^^^ b), e a, e b, Nat.testBit_xor]
    cases a.testBit 0 <;> cases b.testBit 0 <;> rfl
  unfold stepC
  rw [h1, h2]
  rcases Nat.mod_two_eq_zero_or_one a with ha | ha <;> rcases Nat.mod_two_eq_zero_or_one b with hb | hb <;> simp only [ha, hb]
  · rfl
  · simp [Nat.xor_assoc]
  · simp only [if_true]
    rw [if_neg (by decide), Nat.xor_assoc, Nat.xor_comm (b / 2), ← Nat.xor_assoc]
  · simp only [Nat.reduceAdd, Nat.reduceMod, if_true]
    rw [if_neg (by decide), Nat.xor_assoc, Nat.xor_comm (b / 2), ← Nat.xor_assoc 3988292384, Nat.xor_self, Nat.zero_xor]
theorem stepsC_xor (k a b : Nat) : stepsC k (a ^^^ b) = stepsC k a ^^^ stepsC k b := by
  induction k with
  | zero => rfl
  | succ k ih => simp only [stepsC, ih, stepC_xor]
theorem stepC_two (y : Nat) : stepC (2 * y) = y := by
  unfold stepC
  rw [if_neg (by omega)]
  omega
theorem steps8 (x : Nat) : stepsC 8 x = (x / 256) ^^^ stepsC 8 (x % 256) := by
  have e : x = (256 * (x / 256)) ^^^ (x % 256) := by
    apply Nat.eq_of_testBit_eq
    intro i
    rw [Nat.testBit_xor, show (256 : Nat) = 2 ^ 8 by decide, Nat.testBit_mod_two_pow, Nat.mul_comm, Nat.testBit_mul_two_pow, Nat.testBit_div_two_pow]
    by_cases h : i < 8
    · have h' : ¬ 8 ≤ i := by omega
      simp [h, h']
    · have : 8 ≤ i := by omega
      simp [h, this, Nat.sub_add_cancel this]
  have e8 : stepsC 8 (256 * (x / 256)) = x / 256 := by
    have : 256 * (x / 256) = 2 * (2 * (2 * (2 * (2 * (2 * (2 * (2 * (x / 256)))))))) := by omega
    rw [this]
    simp only [stepsC, stepC_two]
  rw [e, stepsC_xor, e8]
  congr 1
  · rw [← e]
  · rw [← e]
theorem stepC_lt {x : Nat} (h : x < 4294967296) : stepC x < 4294967296 := by
  unfold stepC
  split
  · exact Nat.xor_lt_two_pow (n := 32) (by omega) (by omega)
  · omega
theorem stepsC_lt {x : Nat} (h : x < 4294967296) : ∀ k, stepsC k x < 4294967296
  | 0 => h
  | k + 1 => stepC_lt (stepsC_lt h k)
/-- A byte more. -/
theorem steps_byte (x b : Nat) (hb : b < 256) : stepsC 8 (x ^^^ b) = (x / 256) ^^^ stepsC 8 ((x % 256) ^^^ b) := by
  rw [steps8]
  have e1 : (x ^^^ b) / 256 = x / 256 := by
    apply Nat.eq_of_testBit_eq
    intro i
    rw [show (256 : Nat) = 2 ^ 8 by decide, Nat.testBit_div_two_pow, Nat.testBit_div_two_pow, Nat.testBit_xor, Nat.testBit_lt_two_pow (x := b) (Nat.lt_of_lt_of_le hb (by rw [show (256 : Nat) = 2 ^ 8 by decide]; exact Nat.pow_le_pow_right (by omega) (by omega)))]
    simp
  have e2 : (x ^^^ b) % 256 = (x % 256) ^^^ b := by
    apply Nat.eq_of_testBit_eq
    intro i
    rw [show (256 : Nat) = 2 ^ 8 by decide, Nat.testBit_mod_two_pow, Nat.testBit_xor, Nat.testBit_xor, Nat.testBit_mod_two_pow]
    by_cases h : i < 8
    · simp [h]
    · rw [Nat.testBit_lt_two_pow (x := b) (Nat.lt_of_lt_of_le hb (by rw [show (256 : Nat) = 2 ^ 8 by decide]; exact Nat.pow_le_pow_right (by omega) (by omega)))]
      simp [h]
  rw [e1, e2]
/-- The sum of the bytes behind which it is x. -/
def sumC (x : Nat) (l : List UInt8) : Nat := l.foldl (fun c b => stepsC 8 (c ^^^ b.toNat)) x
def crcT (s : ByteArray) : Nat := sumC 4294967295 s.data.toList ^^^ 4294967295
theorem sumC_lt {x : Nat} (h : x < 4294967296) (l : List UInt8) : sumC x l < 4294967296 := by
  induction l generalizing x with
  | nil => exact h
  | cons b r ih =>
    simp only [sumC, List.foldl_cons]
    have hb := b.toNat_lt
    exact ih (stepsC_lt (Nat.xor_lt_two_pow (n := 32) (by omega) (by omega)) 8)
theorem crcT_lt (s : ByteArray) : crcT s < 4294967296 := Nat.xor_lt_two_pow (n := 32) (sumC_lt (by omega) _) (by omega)
theorem xor_all {x : Nat} (h : x < 4294967296) : x ^^^ 4294967295 = 4294967295 - x := by
  apply Nat.eq_of_testBit_eq
  intro i
  rw [Nat.testBit_xor, show (4294967295 : Nat) = 2 ^ 32 - 1 by decide, Nat.testBit_two_pow_sub_one, show 2 ^ 32 - 1 - x = 2 ^ 32 - (x + 1) by omega, Nat.testBit_two_pow_sub_succ (by omega)]
  by_cases hi : i < 32
  · simp [hi]
  · rw [Nat.testBit_lt_two_pow (x := x) (Nat.lt_of_lt_of_le h (by rw [show (4294967296 : Nat) = 2 ^ 32 by decide]; exact Nat.pow_le_pow_right (by omega) (by omega)))]
    simp [hi]
end Go.Proofs.YtfojdjmeefglcaaDoor
