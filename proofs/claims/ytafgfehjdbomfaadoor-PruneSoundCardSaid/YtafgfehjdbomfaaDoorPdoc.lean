/-
  Document's Part: what parts a row has, by the document's own Apply, Crc and runes.
-/
import Derived.Test.YtafgfehjdbomfaaDoorData
import Derived.Laws.BitsAllLaws
import Derived.Test.YtafgfehjdbomfaaDoorBase
import Derived.Test.YtafgfehjdbomfaaDoorFd
import Derived.Test.YtafgfehjdbomfaaDoorTe
import Derived.Laws.IdiomStrings
import Derived.Laws.Bits64
import Derived.Laws.Rows
import Derived.Test.YtafgfehjdbomfaaDoorVc
import Derived.Test.YtafgfehjdbomfaaDoorRw
import Derived.Test.YtafgfehjdbomfaaDoorRo
import Derived.Test.YtafgfehjdbomfaaDoorRb
namespace Go.Proofs.YtafgfehjdbomfaaDoor
open Go.RowKit

def stepC (x : Nat) : Nat := if x % 2 = 1 then (x / 2) ^^^ 3988292384 else x / 2
def stepsC : Nat → Nat → Nat
  | 0, x => x
  | k + 1, x => stepC (stepsC k x)
theorem stepC_xor (a b : Nat) : stepC (a ^^^ b) = stepC a ^^^ stepC b := by
  have h1 : (a ^^^ b) / 2 = a / 2 ^^^ b / 2 := by
    apply Nat.eq_of_testBit_eq
    intro i
    simp [Nat.testBit_div_two]
  have h2 : (a ^^^ b) % 2 = (a % 2 + b % 2) % 2 := by
    have e : ∀ x : Nat, x % 2 = (x.testBit 0).toNat := fun x => by
      rw [Nat.testBit_zero]
      rcases Nat.mod_two_eq_zero_or_one x with h | h <;> simp [h]
    rw [e (a ^^^ b), e a, e b, Nat.testBit_xor]
    cases a.testBit 0 <;> cases b.testBit 0 <;> rfl
  unfold stepC
  rw [h1, h2]
  rcases Nat.mod_two_eq_zero_or_one a with ha | ha <;> rcases Nat.mod_two_eq_zero_or_one b with hb | hb <;> simp only [ha, hb]
  · rfl
  · simp [Nat.xor_assoc]
  · simp only [if_true]
    rw [if_neg (by decide), Nat.xor_assoc, Nat.xor_comm (b / 2), ← Nat.xor_assoc]
  · simp only [Nat.reduceAdd, Nat.reduceMod, if_true]
    rw [if_neg (by decide), Nat.xor_assoc, Nat.xor_comm (b / 2), ← Nat.xor_assoc 3988292384, Nat.xor_self, Nat.zero_xor]
theorem stepsC_xor (k a b : Nat) : stepsC k (a ^^^ b) = stepsC k a ^^^ stepsC k b := by
  induction k with
  | zero => rfl
  | succ k ih => simp only [stepsC, ih, stepC_xor]
theorem stepC_two (y : Nat) : stepC (2 * y) = y := by
  unfold stepC
  rw [if_neg (by omega)]
  omega
theorem steps8 (x : Nat) : stepsC 8 x = (x / 256) ^^^ stepsC 8 (x % 256) := by
  have e : x = (256 * (x / 256)) ^^^ (x % 256) := by
    apply Nat.eq_of_testBit_eq
    intro i
    rw [Nat.testBit_xor, show (256 : Nat) = 2 ^ 8 by decide, Nat.testBit_mod_two_pow, Nat.mul_comm, Nat.testBit_mul_two_pow, Nat.testBit_div_two_pow]
    by_cases h : i < 8
    · have h' : ¬ 8 ≤ i := by omega
      simp [h, h']
    · have : 8 ≤ i := by omega
      simp [h, this, Nat.sub_add_cancel this]
  have e8 : stepsC 8 (256 * (x / 256)) = x / 256 := by
    have : 256 * (x / 256) = 2 * (2 * (2 * (2 * (2 * (2 * (2 * (2 * (x / 256)))))))) := by omega
    rw [this]
    simp only [stepsC, stepC_two]
  rw [e, stepsC_xor, e8]
  congr 1
  · rw [← e]
  · rw [← e]
theorem stepC_lt {x : Nat} (h : x < 4294967296) : stepC x < 4294967296 := by
  unfold stepC
  split
  · exact Nat.xor_lt_two_pow (n := 32) (by omega) (by omega)
  · omega
theorem stepsC_lt {x : Nat} (h : x < 4294967296) : ∀ k, stepsC k x < 4294967296
  | 0 => h
  | k + 1 => stepC_lt (stepsC_lt h k)
/-- A byte more. -/
theorem steps_byte (x b : Nat) (hb : b < 256) : stepsC 8 (x ^^^ b) = (x / 256) ^^^ stepsC 8 ((x % 256) ^^^ b) := by
  rw [steps8]
  have e1 : (x ^^^ b) / 256 = x / 256 := by
    apply Nat.eq_of_testBit_eq
    intro i
    rw [show (256 : Nat) = 2 ^ 8 by decide, Nat.testBit_div_two_pow, Nat.testBit_div_two_pow, Nat.testBit_xor, Nat.testBit_lt_two_pow (x := b) (Nat.lt_of_lt_of_le hb (by rw [show (256 : Nat) = 2 ^ 8 by decide]; exact Nat.pow_le_pow_right (by omega) (by omega)))]
    simp
  have e2 : (x ^^^ b) % 256 = (x % 256) ^^^ b := by
    apply Nat.eq_of_testBit_eq
    intro i
    rw [show (256 : Nat) = 2 ^ 8 by decide, Nat.testBit_mod_two_pow, Nat.testBit_xor, Nat.testBit_xor, Nat.testBit_mod_two_pow]
    by_cases h : i < 8
    · simp [h]
    · rw [Nat.testBit_lt_two_pow (x := b) (Nat.lt_of_lt_of_le hb (by rw [show (256 : Nat) = 2 ^ 8 by decide]; exact Nat.pow_le_pow_right (by omega) (by omega)))]
      simp [h]
  rw [e1, e2]
/-- The sum of the bytes behind which it is x. -/
def sumC (x : Nat) (l : List UInt8) : Nat := l.foldl (fun c b => stepsC 8 (c ^^^ b.toNat)) x
def crcT (s : ByteArray) : Nat := sumC 4294967295 s.data.toList ^^^ 4294967295
theorem sumC_lt {x : Nat} (h : x < 4294967296) (l : List UInt8) : sumC x l < 4294967296 := by
  induction l generalizing x with
  | nil => exact h
  | cons b r ih =>
    simp only [sumC, List.foldl_cons]
    have hb := b.toNat_lt
    exact ih (stepsC_lt (Nat.xor_lt_two_pow (n := 32) (by omega) (by omega)) 8)
theorem crcT_lt (s : ByteArray) : crcT s < 4294967296 := Nat.xor_lt_two_pow (n := 32) (sumC_lt (by omega) _) (by omega)
theorem xor_all {x : Nat} (h : x < 4294967296) : x ^^^ 4294967295 = 4294967295 - x := by
  apply Nat.eq_of_testBit_eq
  intro i
  rw [Nat.testBit_xor, show (4294967295 : Nat) = 2 ^ 32 - 1 by decide, Nat.testBit_two_pow_sub_one, show 2 ^ 32 - 1 - x = 2 ^ 32 - (x + 1) by omega, Nat.testBit_two_pow_sub_succ (by omega)]
  by_cases hi : i < 32
  · simp [hi]
  · rw [Nat.testBit_lt_two_pow (x := x) (Nat.lt_of_lt_of_le h (by rw [show (4294967296 : Nat) = 2 ^ 32 by decide]; exact Nat.pow_le_pow_right (by omega) (by omega)))]
    simp [hi]
end Go.Proofs.YtafgfehjdbomfaaDoor
namespace Go.Proofs.YtafgfehjdbomfaaDoor
open Go.RowKit

/-- A byte of UTF-8 that goes on: its six bits; -1: none. -/
def nextB (s : ByteArray) (i : Nat) : Int := if h : i < s.size then (if 128 ≤ s[i].toNat ∧ s[i].toNat ≤ 191 then (s[i].toNat : Int) - 128 else -1) else -1
/-- The rune of a first byte and what goes on. -/
def runeC (c a b d : Int) : Int × Int :=
  if c < 128 then (c, 1)
  else if c < 194 ∨ 244 < c then (0, 0)
  else if c < 224 ∧ 0 ≤ a then ((c - 192) * 64 + a, 2)
  else if 224 ≤ c ∧ c < 240 ∧ 0 ≤ a ∧ 0 ≤ b then (if 2048 ≤ (c - 224) * 4096 + a * 64 + b ∧ ((c - 224) * 4096 + a * 64 + b < 55296 ∨ 57343 < (c - 224) * 4096 + a * 64 + b) then ((c - 224) * 4096 + a * 64 + b, 3) else (0, 0))
  else if 240 ≤ c ∧ 0 ≤ a ∧ 0 ≤ b ∧ 0 ≤ d then (if 65536 ≤ (c - 240) * 262144 + a * 4096 + b * 64 + d ∧ (c - 240) * 262144 + a * 4096 + b * 64 + d ≤ 1114111 then ((c - 240) * 262144 + a * 4096 + b * 64 + d, 4) else (0, 0))
  else (0, 0)
/-- The rune at a place, and how many bytes it has. -/
def runeT (s : ByteArray) (i : Nat) : Int × Int := if h : i < s.size then runeC s[i].toNat (nextB s (i + 1)) (nextB s (i + 2)) (nextB s (i + 3)) else (0, 0)
def runeR (s : ByteArray) (at_ : Int) : Int × Int := if at_ < 0 then (0, 0) else runeT s at_.toNat

theorem nextB_lt {s : ByteArray} {i : Nat} (h : 0 ≤ nextB s i) : i < s.size := by
  unfold nextB at h
  split at h
  · assumption
  · omega
theorem nextB_bd (s : ByteArray) (i : Nat) : -1 ≤ nextB s i ∧ nextB s i < 64 := by
  unfold nextB
  split
  · split <;> omega
  · omega
theorem runeT_bd (s : ByteArray) (i : Nat) : 0 ≤ (runeT s i).2 ∧ (runeT s i).2 ≤ 4 ∧ (0 < (runeT s i).2 → i + (runeT s i).2.toNat ≤ s.size) := by
  unfold runeT
  split
  · rename_i hi
    have h1 : 0 ≤ nextB s (i + 1) → i + 1 < s.size := nextB_lt
    have h2 : 0 ≤ nextB s (i + 2) → i + 2 < s.size := nextB_lt
    have h3 : 0 ≤ nextB s (i + 3) → i + 3 < s.size := nextB_lt
    unfold runeC
    split
    · simp; omega
    split
    · simp
    split
    · simp; omega
    split
    · split <;> simp
      omega
    split
    · split <;> simp
      omega
    · simp
  · simp

/-- The first place that is no rune's beginning; -1: all are runes. -/
def firstN : Nat → ByteArray → Nat → Int
  | 0, _, _ => -1
  | f + 1, s, i => if i < s.size then (if (runeT s i).2 = 0 then (i : Int) else firstN f s (i + (runeT s i).2.toNat)) else -1
def firstR (s : ByteArray) : Int := firstN (s.size + 1) s 0
def validB (s : ByteArray) : Bool := decide (firstR s < 0)
theorem firstN_bd : ∀ (f : Nat) (s : ByteArray) (i : Nat), -1 ≤ firstN f s i ∧ firstN f s i < s.size ∨ firstN f s i = -1
  | 0, _, _ => .inr rfl
  | f + 1, s, i => by
    unfold firstN
    split
    · split
      · exact .inl ⟨by omega, by omega⟩
      · exact firstN_bd f s _
    · exact .inr rfl
theorem firstR_eq (s : ByteArray) : (firstR s == -1) = validB s := by
  unfold validB
  rcases firstN_bd (s.size + 1) s 0 with h | h
  · rw [show firstR s = firstN (s.size + 1) s 0 from rfl]
    by_cases e : firstN (s.size + 1) s 0 = -1
    · simp [e]
    · have : ¬ firstN (s.size + 1) s 0 < 0 := by omega
      simp [e, this]
  · rw [show firstR s = firstN (s.size + 1) s 0 from rfl, h]
    rfl

/-- The place behind the first so many runes. -/
def preN : Nat → ByteArray → Nat → Nat
  | 0, _, i => i
  | m + 1, s, i => if i < s.size then preN m s (i + (max (runeT s i).2 1).toNat) else i
theorem preN_stop {s : ByteArray} {i : Nat} (h : s.size ≤ i) : ∀ m, preN m s i = i
  | 0 => rfl
  | m + 1 => by unfold preN; rw [if_neg (by omega)]
theorem pre_step (s : ByteArray) (i : Nat) (h : i < s.size) : i + (max (runeT s i).2 1).toNat ≤ s.size := by
  obtain ⟨h1, h2, h3⟩ := runeT_bd s i
  by_cases e : 0 < (runeT s i).2
  · rw [show max (runeT s i).2 1 = (runeT s i).2 by omega]; exact h3 e
  · rw [show max (runeT s i).2 1 = 1 by omega]; simp; omega
theorem preN_le : ∀ (m : Nat) (s : ByteArray) (i : Nat), i ≤ s.size → preN m s i ≤ s.size
  | 0, _, _, h => h
  | m + 1, s, i, h => by
    unfold preN
    split
    · rename_i hi
      exact preN_le m s _ (pre_step s i hi)
    · exact h

/-! ### The forms of 1 to 4 bytes, as the program asks for them -/
def maskT : Nat → Int | 1 => 128 | 2 => 224 | 3 => 240 | 4 => 248 | _ => 0
def headT : Nat → Int | 1 => 0 | 2 => 192 | 3 => 224 | 4 => 240 | _ => 0
def leastT : Nat → Int | 2 => 128 | 3 => 2048 | 4 => 65536 | _ => 0
/-- Which form a first byte has; 5: none. -/
def formT (c : Nat) : Nat := if c < 128 then 1 else if c < 192 then 5 else if c < 224 then 2 else if c < 240 then 3 else if c < 248 then 4 else 5
theorem form_tests : ∀ c : Fin 256, ∀ k : Fin 5, (bits .and .i64 (c.val : Int) (maskT k.val) == headT k.val) = (k.val == 0 || k.val == formT c.val) := by decide +kernel
theorem form_test (c : UInt8) {k : Nat} (hk : k < 5) : (bits .and .i64 (c.toNat : Int) (maskT k) == headT k) = (k == 0 || k == formT c.toNat) := form_tests ⟨c.toNat, c.toNat_lt⟩ ⟨k, hk⟩
theorem form_rests : ∀ c : Fin 256, ∀ k : Fin 5, formT c.val = k.val → bits .andNot .i64 (c.val : Int) (maskT k.val) = (c.val : Int) - headT k.val := by decide +kernel
theorem form_rest (c : UInt8) {k : Nat} (hk : k < 5) (h : formT c.toNat = k) : bits .andNot .i64 (c.toNat : Int) (maskT k) = (c.toNat : Int) - headT k := form_rests ⟨c.toNat, c.toNat_lt⟩ ⟨k, hk⟩ h
theorem on_tests : ∀ c : Fin 256, (bits .and .u8 (c.val : Int) 192 == 128) = (decide (128 ≤ c.val) && decide (c.val ≤ 191)) ∧ bits .and .u8 (c.val : Int) 63 = ((c.val % 64 : Nat) : Int) := by decide +kernel
theorem on_test (c : UInt8) : (bits .and .u8 (c.toNat : Int) 192 == 128) = (decide (128 ≤ c.toNat) && decide (c.toNat ≤ 191)) ∧ bits .and .u8 (c.toNat : Int) 63 = ((c.toNat % 64 : Nat) : Int) := on_tests ⟨c.toNat, c.toNat_lt⟩

def mayR (r : Int) : Bool := decide (0 ≤ r) && decide (r ≤ 1114111) && (decide (r < 55296) || decide (57343 < r))
/-- The number behind j bytes that go on. -/
def accT (s : ByteArray) (i : Nat) (c : Int) : Nat → Int
  | 0 => c
  | j + 1 => accT s i c j * 64 + nextB s (i + 1 + j)
theorem accT_bd {s : ByteArray} {i : Nat} {c : Int} (h0 : 0 ≤ c) (h1 : c < 256) : ∀ {j : Nat}, (∀ k, k < j → 0 ≤ nextB s (i + 1 + k)) → 0 ≤ accT s i c j ∧ accT s i c j < 256 * 64 ^ j
  | 0, _ => by simp [accT]; omega
  | j + 1, h => by
    have ⟨a, b⟩ := accT_bd h0 h1 (j := j) (fun k hk => h k (by omega))
    have n0 := h j (by omega)
    have n1 := (nextB_bd s (i + 1 + j)).2
    simp only [accT, Int.pow_succ]
    omega
theorem accT_3 {s : ByteArray} {i : Nat} {c : Int} (h0 : 0 ≤ c) (h1 : c < 256) {j : Nat} (hj : j ≤ 3) (h : ∀ k, k < j → 0 ≤ nextB s (i + 1 + k)) : 0 ≤ accT s i c j ∧ accT s i c j < 67108864 := by
  have ⟨a, b⟩ := accT_bd h0 h1 h
  refine ⟨a, ?_⟩
  match j, hj with
  | 0, _ => omega
  | 1, _ => omega
  | 2, _ => omega
  | 3, _ => omega
/-- What stands at the end of the program's Rune. -/
def endR (r : Int) (n : Nat) : Int × Int := if r < leastT n then (0, 0) else if mayR r then (r, (n : Int)) else (0, 0)
theorem form_le (c : Nat) : 1 ≤ formT c ∧ formT c ≤ 5 := by unfold formT; split <;> (try split) <;> (try split) <;> (try split) <;> (try split) <;> omega
theorem form_1 {c : Nat} (h : formT c = 1) : c < 128 := by
  unfold formT at h
  split at h
  · assumption
  · split at h <;> (try split at h) <;> (try split at h) <;> (try split at h) <;> omega
theorem form_2 {c : Nat} (h : formT c = 2) : 192 ≤ c ∧ c < 224 := by
  unfold formT at h
  split at h
  · omega
  · split at h
    · omega
    · split at h
      · omega
      · split at h <;> (try split at h) <;> omega
theorem form_3 {c : Nat} (h : formT c = 3) : 224 ≤ c ∧ c < 240 := by
  unfold formT at h
  split at h
  · omega
  · split at h
    · omega
    · split at h
      · omega
      · split at h
        · omega
        · split at h <;> omega
theorem form_4 {c : Nat} (h : formT c = 4) : 240 ≤ c ∧ c < 248 := by
  unfold formT at h
  split at h
  · omega
  · split at h
    · omega
    · split at h
      · omega
      · split at h
        · omega
        · split at h <;> omega
theorem form_5 {c : Nat} (h : formT c = 5) : (128 ≤ c ∧ c < 192) ∨ 248 ≤ c := by
  unfold formT at h
  split at h
  · omega
  · split at h
    · omega
    · split at h
      · omega
      · split at h
        · omega
        · split at h <;> omega
theorem runeT_at {s : ByteArray} {i : Nat} (hi : i < s.size) : runeT s i = runeC s[i].toNat (nextB s (i + 1)) (nextB s (i + 2)) (nextB s (i + 3)) := by rw [runeT, dif_pos hi]
/-- No form begins so. -/
theorem rune_none {s : ByteArray} {i : Nat} (hi : i < s.size) (h : formT s[i].toNat = 5) : runeT s i = (0, 0) := by
  rw [runeT_at hi, runeC]
  have := form_5 h
  rw [if_neg (by omega), if_pos (by omega)]
/-- Some byte that is to go on does not. -/
theorem rune_cut {s : ByteArray} {i : Nat} (hi : i < s.size) {n j : Nat} (hn : n ≤ 4) (h : formT s[i].toNat = n) (hj : j + 1 < n) (hb : nextB s (i + 1 + j) < 0) : runeT s i = (0, 0) := by
  rw [runeT_at hi, runeC]
  generalize ha : nextB s (i + 1) = a
  generalize hb2 : nextB s (i + 2) = b
  generalize hd : nextB s (i + 3) = d
  match n, j, hn, hj with
  | 2, 0, _, _ =>
    have := form_2 h
    rw [show i + 1 + 0 = i + 1 from rfl, ha] at hb
    rw [if_neg (by omega)]
    split
    · rfl
    · rw [if_neg (by omega), if_neg (by omega), if_neg (by omega)]
  | 3, 0, _, _ =>
    have := form_3 h
    rw [show i + 1 + 0 = i + 1 from rfl, ha] at hb
    rw [if_neg (by omega)]
    split
    · rfl
    · rw [if_neg (by omega), if_neg (by omega), if_neg (by omega)]
  | 3, 1, _, _ =>
    have := form_3 h
    rw [show i + 1 + 1 = i + 2 from rfl, hb2] at hb
    rw [if_neg (by omega)]
    split
    · rfl
    · rw [if_neg (by omega), if_neg (by omega), if_neg (by omega)]
  | 4, 0, _, _ =>
    have := form_4 h
    rw [show i + 1 + 0 = i + 1 from rfl, ha] at hb
    rw [if_neg (by omega)]
    split
    · rfl
    · rw [if_neg (by omega), if_neg (by omega), if_neg (by omega)]
  | 4, 1, _, _ =>
    have := form_4 h
    rw [show i + 1 + 1 = i + 2 from rfl, hb2] at hb
    rw [if_neg (by omega)]
    split
    · rfl
    · rw [if_neg (by omega), if_neg (by omega), if_neg (by omega)]
  | 4, 2, _, _ =>
    have := form_4 h
    rw [show i + 1 + 2 = i + 3 from rfl, hd] at hb
    rw [if_neg (by omega)]
    split
    · rfl
    · rw [if_neg (by omega), if_neg (by omega), if_neg (by omega)]
/-- The text ends ahead of the rune's end. -/
theorem rune_short {s : ByteArray} {i : Nat} (hi : i < s.size) {n : Nat} (hn : n ≤ 4) (h : formT s[i].toNat = n) (hs : s.size < i + n) : runeT s i = (0, 0) := by
  have hf := form_le s[i].toNat
  refine rune_cut (j := n - 2) hi hn h (by omega) ?_
  unfold nextB
  rw [dif_neg (by omega)]
  omega
/-- All bytes of the form are there. -/
theorem rune_end {s : ByteArray} {i : Nat} (hi : i < s.size) {n : Nat} (hn : n ≤ 4) (h : formT s[i].toNat = n) (hg : ∀ j, j < n - 1 → 0 ≤ nextB s (i + 1 + j)) : runeT s i = endR (accT s i ((s[i].toNat : Int) - headT n) (n - 1)) n := by
  have hf := form_le s[i].toNat
  have hc := s[i].toNat_lt
  rw [runeT_at hi]
  have B1 := nextB_bd s (i + 1); have B2 := nextB_bd s (i + 2); have B3 := nextB_bd s (i + 3)
  match n, hn, h with
  | 0, _, h => omega
  | 1, _, h =>
    have h1 := form_1 h
    have e : mayR (s[i].toNat : Int) = true := by simp [mayR]; omega
    have ea : accT s i ((s[i].toNat : Int) - headT 1) (1 - 1) = (s[i].toNat : Int) := by simp [accT, headT]
    rw [ea, runeC, endR, leastT, if_pos (by omega), if_neg (by omega), e]
    · rfl
    all_goals (intro h; cases h)
  | 2, _, h =>
    have h2 := form_2 h
    have g0 := hg 0 (by omega)
    rw [show i + 1 + 0 = i + 1 from rfl] at g0
    have ea : accT s i ((s[i].toNat : Int) - headT 2) (2 - 1) = ((s[i].toNat : Int) - 192) * 64 + nextB s (i + 1) := rfl
    rw [ea]
    generalize nextB s (i + 1) = a at *
    by_cases h3 : (s[i].toNat : Int) < 194
    · rw [runeC, if_neg (by omega), if_pos (by omega), endR, leastT, if_pos (by omega)]
    · have e : mayR (((s[i].toNat : Int) - 192) * 64 + a) = true := by simp [mayR]; omega
      rw [runeC, if_neg (by omega), if_neg (by omega), if_pos (by omega), endR, leastT, if_neg (by omega), e]
      rfl
  | 3, _, h =>
    have h2 := form_3 h
    have g0 := hg 0 (by omega)
    have g1 := hg 1 (by omega)
    rw [show i + 1 + 0 = i + 1 from rfl] at g0
    rw [show i + 1 + 1 = i + 2 from rfl] at g1
    have ea : accT s i ((s[i].toNat : Int) - headT 3) (3 - 1) = (((s[i].toNat : Int) - 224) * 64 + nextB s (i + 1)) * 64 + nextB s (i + 2) := rfl
    rw [ea]
    generalize nextB s (i + 1) = a at *
    generalize nextB s (i + 2) = b at *
    rw [runeC, if_neg (by omega), if_neg (by omega), if_neg (by omega), if_pos (by omega), show ((s[i].toNat : Int) - 224) * 4096 + a * 64 + b = (((s[i].toNat : Int) - 224) * 64 + a) * 64 + b by omega]
    generalize hr : (((s[i].toNat : Int) - 224) * 64 + a) * 64 + b = r
    rw [endR, leastT]
    by_cases h3 : r < 2048
    · rw [if_neg (by omega), if_pos h3]
    · rw [if_neg h3]
      by_cases h4 : r < 55296 ∨ 57343 < r
      · have e : mayR r = true := by simp [mayR]; omega
        rw [if_pos (by omega), e]
        rfl
      · have e : mayR r = false := by simp [mayR]; omega
        rw [if_neg (by omega), e]
        rfl
  | 4, _, h =>
    have h2 := form_4 h
    have g0 := hg 0 (by omega)
    have g1 := hg 1 (by omega)
    have g2 := hg 2 (by omega)
    rw [show i + 1 + 0 = i + 1 from rfl] at g0
    rw [show i + 1 + 1 = i + 2 from rfl] at g1
    rw [show i + 1 + 2 = i + 3 from rfl] at g2
    have ea : accT s i ((s[i].toNat : Int) - headT 4) (4 - 1) = ((((s[i].toNat : Int) - 240) * 64 + nextB s (i + 1)) * 64 + nextB s (i + 2)) * 64 + nextB s (i + 3) := rfl
    rw [ea]
    generalize nextB s (i + 1) = a at *
    generalize nextB s (i + 2) = b at *
    generalize nextB s (i + 3) = d at *
    by_cases h5 : 244 < (s[i].toNat : Int)
    · have e : mayR (((((s[i].toNat : Int) - 240) * 64 + a) * 64 + b) * 64 + d) = false := by simp [mayR]; omega
      rw [runeC, if_neg (by omega), if_pos (by omega), endR, e]
      simp
    rw [runeC, if_neg (by omega), if_neg (by omega), if_neg (by omega), if_neg (by omega), if_pos (by omega), show ((s[i].toNat : Int) - 240) * 262144 + a * 4096 + b * 64 + d = ((((s[i].toNat : Int) - 240) * 64 + a) * 64 + b) * 64 + d by omega]
    generalize hr : ((((s[i].toNat : Int) - 240) * 64 + a) * 64 + b) * 64 + d = r
    rw [endR, leastT]
    by_cases h3 : r < 65536
    · rw [if_neg (by omega), if_pos h3]
    · rw [if_neg h3]
      by_cases h4 : r ≤ 1114111
      · have e : mayR r = true := by simp [mayR]; omega
        rw [if_pos (by omega), e]
        rfl
      · have e : mayR r = false := by simp [mayR]; omega
        rw [if_neg (by omega), e]
        rfl
end Go.Proofs.YtafgfehjdbomfaaDoor
namespace Go.Proofs.YtafgfehjdbomfaaDoor
open Go.RowKit

def formsV : Value := .agg #[.int .i64 0, .int .i64 0, .int .i64 0, .int .i64 128, .int .i64 0, .int .i64 0, .int .i64 224, .int .i64 192, .int .i64 128, .int .i64 240, .int .i64 224, .int .i64 2048, .int .i64 248, .int .i64 240, .int .i64 65536]
theorem next_at (s : ByteArray) {m : Nat} (h : m < s.size) : nextB s m = if 128 ≤ s[m].toNat ∧ s[m].toNat ≤ 191 then (s[m].toNat : Int) - 128 else -1 := by rw [nextB, dif_pos h]
theorem or6 {x : Int} {y : Nat} (h0 : 0 ≤ x) (h1 : x < 67108864) (hy : y < 64) : bits .or .i64 (x * 64) (y : Int) = x * 64 + y := by
  obtain ⟨a, rfl⟩ : ∃ a : Nat, x = a := ⟨x.toNat, by omega⟩
  show IntKind.i64.wrap ((BitVec.ofInt 64 ((a : Int) * 64) ||| BitVec.ofInt 64 (y : Int)).toNat : Int) = _
  have e1 : (BitVec.ofInt 64 ((a : Int) * 64)).toNat = a <<< 6 := by rw [BitVec.toNat_ofInt, Nat.shiftLeft_eq]; omega
  have e2 : (BitVec.ofInt 64 (y : Int)).toNat = y := by rw [BitVec.toNat_ofInt]; omega
  rw [BitVec.toNat_or, e1, e2, ← Nat.shiftLeft_add_eq_or_of_lt (by simpa using hy), Nat.shiftLeft_eq, IntKind.wrap_i64]
  omega
theorem firstN_step {f : Nat} {s : ByteArray} {i : Nat} (hi : i < s.size) (h : (runeT s i).2 ≠ 0) : firstN (f + 1) s i = firstN f s (i + (runeT s i).2.toNat) := by rw [firstN, if_pos hi, if_neg h]
theorem firstN_stop {f : Nat} {s : ByteArray} {i : Nat} (hi : i < s.size) (h : (runeT s i).2 = 0) : firstN (f + 1) s i = i := by rw [firstN, if_pos hi, if_pos h]
theorem firstN_end {f : Nat} {s : ByteArray} {i : Nat} (hi : s.size ≤ i) : firstN f s i = -1 := by
  cases f with
  | zero => rfl
  | succ f => rw [firstN, if_neg (by omega)]
end Go.Proofs.YtafgfehjdbomfaaDoor
namespace Go.Proofs.YtafgfehjdbomfaaDoor
open Go.RowKit

def floorT (x by_ : Int) : Int := if x < -9223372036854775808 + x % by_ then -9223372036854775808 else x - x % by_
def byteT (x : Int) (i : Nat) : UInt8 := UInt8.ofNat (x / 2 ^ (56 - 8 * i) % 256).toNat
def be8 (x : Int) : ByteArray := ⟨((List.range 8).map (byteT x)).toArray⟩
def bytesT (v : Val) : ByteArray := if v.kind = 1 then be8 v.i else if v.kind = 2 then (if v.b then ⟨#[1]⟩ else ⟨#[0]⟩) else v.s
def firstT (s : ByteArray) (many : Int) : ByteArray := s.extract 0 (preN many.toNat s 0)
def applyR (f : Fld) (v : Val) : Val × Int :=
  if paramB f = false then (Val.zero, 1300)
  else if kindV v = 0 ∨ f.trans = 0 then (clean v, 0)
  else if f.trans = 1 then (⟨1, (crcT (bytesT (clean v)) : Int) % f.param, false, .empty⟩, 0)
  else if kindV v = 1 then (⟨1, floorT (clean v).i f.param, false, .empty⟩, 0)
  else if kindV v = 3 then (⟨3, 0, false, firstT (clean v).s f.param⟩, 0)
  else (Val.zero, 1300)
end Go.Proofs.YtafgfehjdbomfaaDoor
namespace Go.Proofs.YtafgfehjdbomfaaDoor
open Go.RowKit

theorem rnext_any (s : ByteArray) (i : Nat) (j : Int) (w : World) (hj : j = i) :
    Calls Tryd.prog 111 #[.string s, .int .i64 j] w fun e w' => e = .returned (.int .i64 (nextB s i)) ∧ Step w w' := by
  subst hj
  have hi0 : (0 : Int) ≤ (i : Int) := by omega
  by_cases h : i < s.size
  · have HN := hide (next_at s h)
    have hi1 : (i : Int) < (s.size : Int) := by omega
    have hc := s[i].toNat_lt
    go_enter Tryd.func111, Tryd.ntmps111
    go_wp2_with fail
    all_goals
      go_ret
      exact ⟨ret_int (by rw [HN.out]; split <;> simp_all <;> omega), Step.of⟩
  · have HN : Hid (nextB s i = -1) := by show _ = _; rw [nextB, dif_neg h]
    have hi1 : decide ((i : Int) ≥ (s.size : Int)) = true := by simp; omega
    go_enter Tryd.func111, Tryd.ntmps111
    go_wp2_with fail
    all_goals
      go_ret
      exact ⟨ret_int HN.out.symm, Step.of⟩
theorem ret2i {a b : Int} {p : Int × Int} (h : p = (a, b)) : Ending.returned (.tuple #[.int .i64 a, .int .i64 b]) = .returned (.tuple #[.int .i64 p.1, .int .i64 p.2]) := by rw [h]
set_option maxRecDepth 100000 in
set_option maxHeartbeats 4000000 in
theorem rrune_any (s : ByteArray) (at_ : Int) (w : World) (hs2 : s.size ≤ 9223372036854775000) :
    Calls Tryd.prog 106 #[.string s, .int .i64 at_] w fun e w' => e = .returned (.tuple #[.int .i64 (runeR s at_).1, .int .i64 (runeR s at_).2]) ∧ Step w w' := by
  have hs : s.size ≤ 9223372036854775807 := by omega
  by_cases h0 : at_ < 0
  · have HR : Hid (runeR s at_ = (0, 0)) := by show _ = _; rw [runeR, if_pos h0]
    rw [HR.out]
    go_enter Tryd.func106, Tryd.ntmps106
    go_wp2_with fail
    go_ret2
    exact ⟨rfl, Step.of⟩
  by_cases h1 : s.size ≤ at_
  · have HR : Hid (runeR s at_ = (0, 0)) := by show _ = _; rw [runeR, if_neg h0, runeT, dif_neg (by omega)]
    rw [HR.out]
    go_enter Tryd.func106, Tryd.ntmps106
    go_wp2_with fail
    go_ret2
    exact ⟨rfl, Step.of⟩
  obtain ⟨i, rfl⟩ : ∃ i : Nat, at_ = (i : Int) := ⟨at_.toNat, by omega⟩
  have hi : i < s.size := by omega
  have HRR : Hid (runeR s (i : Int) = runeC (s[i].toNat : Int) (nextB s (i + 1)) (nextB s (i + 2)) (nextB s (i + 3))) := by show _ = _; rw [runeR, if_neg h0, ← runeT_at hi]; rfl
  rw [HRR.out]
  have hi0 : (0 : Int) ≤ (i : Int) := by omega
  have hi1 : (i : Int) < (s.size : Int) := by omega
  clear h0 h1 HRR
  obtain ⟨c, hc⟩ : ∃ c : Int, (s[i].toNat : Int) = c := ⟨_, rfl⟩
  have hc0 : 0 ≤ c := by omega
  have hc1 : c ≤ 255 := by have := s[i].toNat_lt; omega
  rw [hc]
  have N1 := hide (fun w' => rnext_any s (i + 1) ((i : Int) + 1) w' (by omega))
  have N2 := hide (fun w' => rnext_any s (i + 2) ((i : Int) + 2) w' (by omega))
  have N3 := hide (fun w' => rnext_any s (i + 3) ((i : Int) + 3) w' (by omega))
  obtain ⟨a0, a1⟩ := nextB_bd s (i + 1); obtain ⟨b0, b1⟩ := nextB_bd s (i + 2); obtain ⟨d0, d1⟩ := nextB_bd s (i + 3)
  generalize nextB s (i + 1) = a at *
  generalize nextB s (i + 2) = b at *
  generalize nextB s (i + 3) = d at *
  obtain ⟨T, hT⟩ : ∃ T, runeC c a b d = T := ⟨_, rfl⟩
  have HT := hide hT
  rw [hT]
  clear hT
  go_enter Tryd.func106, Tryd.ntmps106
  go_wp2_with (first | ((with_reducible refine (N1.out _).mono ?_); rintro e w1 ⟨rfl, hs1⟩) | ((with_reducible refine (N2.out _).mono ?_); rintro e w2 ⟨rfl, hs2⟩) | ((with_reducible refine (N3.out _).mono ?_); rintro e w3 ⟨rfl, hs3⟩))
  all_goals
    go_ret2
    refine ⟨ret2i ?_, Step.of⟩
    rw [← HT.out]
    clear HT N1 N2 N3
    unfold runeC
    (repeat' split) <;> first | rfl | (exfalso; omega) | (simp only [Prod.mk.injEq]; omega)
end Go.Proofs.YtafgfehjdbomfaaDoor
namespace Go.Proofs.YtafgfehjdbomfaaDoor
open Go.RowKit

theorem tmod_cases (x k : Int) (h : 1 ≤ k) : (x.tmod k = x % k ∧ 0 ≤ x.tmod k) ∨ (x.tmod k = x % k - k ∧ x.tmod k < 0) := by
  have h1 := Int.emod_nonneg x (show k ≠ 0 by omega)
  have h2 := Int.emod_lt_of_pos x (show 0 < k by omega)
  rcases Int.le_total 0 x with hx | hx
  · have := Int.tmod_eq_emod_of_nonneg (b := k) hx
    exact .inl ⟨this, by omega⟩
  · have h3 := @Int.tmod_eq_emod x k
    rw [h3]
    split
    · left; omega
    · rename_i h4
      have : x % k ≠ 0 := fun e => h4 (.inr (Int.dvd_of_emod_eq_zero e))
      right; omega
def byteF (x : Int) (i : Nat) : Value := .int .u8 (byteT x i).toNat
theorem byteF_eq (x : Int) (i : Nat) : byteF x i = .int .u8 (x / 2 ^ (56 - 8 * i) % 256) := by
  have h1 := Int.emod_nonneg (x / 2 ^ (56 - 8 * i)) (show (256 : Int) ≠ 0 by decide)
  have h2 := Int.emod_lt_of_pos (x / 2 ^ (56 - 8 * i)) (show (0 : Int) < 256 by decide)
  unfold byteF byteT
  rw [UInt8.toNat_ofNat']
  congr 1
  omega
set_option maxRecDepth 10000 in
set_option maxHeartbeats 1000000 in
theorem rrunes_any (s : ByteArray) (k : Int) (w : World) (h1 : 1 ≤ k) (h2 : k ≤ 1024) (hs : s.size ≤ 9223372036854775000) :
    Calls Tryd.prog 93 #[.string s, .int .i64 k] w fun e w' => e = .returned (.string (firstT s k)) ∧ Step w w' := by
  obtain ⟨R, hR⟩ : ∃ R, preN k.toNat s 0 = R := ⟨_, rfl⟩
  have HR := hide hR
  have HF : Hid (firstT s k = s.extract 0 R) := by show _ = _; rw [firstT, hR]
  rw [HF.out]
  clear hR HF
  obtain ⟨K, rfl⟩ : ∃ K : Nat, k = K := ⟨k.toNat, by omega⟩
  rw [Int.toNat_natCast] at HR
  go_enter Tryd.func93, Tryd.ntmps93
  go_wp2_with fail
  go_loopw [5, 6, 7, 8] (fun at_ m _ _ wr => ∃ c a j : Nat, c + j = K ∧ a ≤ s.size ∧ m = .int .i64 j ∧ at_ = .int .i64 a ∧ Hid (preN c s a = R) ∧ Step w wr) (fun _ m _ _ _ => K - (intOf m).toNat)
  case atStart => exact ⟨K, 0, 0, by omega, Nat.zero_le _, rfl, rfl, HR.out, Step.of⟩
  case round =>
    obtain ⟨c, a, j, hc, ha, rfl, rfl, HP, hst⟩ := hrel
    obtain ⟨wo, rfl⟩ : ∃ x : World, x = wr := ⟨_, rfl⟩
    by_cases hc0 : c = 0
    · subst hc0
      obtain rfl : a = R := HP.out
      have hjk : decide (j < K) = false := by simp; omega
      go_wp2_with fail
      go_ret
      exact ⟨rfl, Step.of⟩
    · have hjk : decide (j < K) = true := by simp; omega
      by_cases hlt : a < s.size
      · obtain ⟨c, rfl⟩ : ∃ d, c = d + 1 := ⟨c - 1, by omega⟩
        have hal : (a : Int) < (s.size : Int) := by omega
        have ha0 : (0 : Int) ≤ (a : Int) := by omega
        have hj1 : j ≤ 1024 := by omega
        have HS : Hid (preN (c + 1) s a = preN c s (a + (max (runeT s a).2 1).toNat)) := by show _ = _; rw [preN, if_pos hlt]
        have hst4 := pre_step s a hlt
        have RU := hide (fun w' => rrune_any s (a : Int) w' hs)
        have he : runeR s (a : Int) = runeT s a := by rw [runeR, if_neg (by omega)]; rfl
        rw [he] at RU
        obtain ⟨hb0, hb1, _⟩ := runeT_bd s a
        generalize runeT s a = rt at RU HS hst4 hb0 hb1
        obtain ⟨r, n⟩ := rt
        simp only at RU HS hst4 hb0 hb1
        clear he hc0
        rcases Int.lt_or_le n 1 with h | h
        · obtain rfl : n = 0 := by omega
          go_wp2_with (refine (RU.out _).mono ?_; rintro e w3 ⟨rfl, hs3⟩)
          go_roundw
          case rel => exact ⟨c, a + 1, j + 1, by omega, by omega, by go_num, by go_num, by show _ = _; rw [← HP.out, HS.out]; rfl, Step.of⟩
          case measure => simp [intOf]; try omega
        · obtain ⟨m, rfl⟩ : ∃ m : Nat, n = m := ⟨n.toNat, by omega⟩
          have hm : (max (m : Int) 1).toNat = m := by omega
          rw [hm] at HS hst4
          have hm2 : max (m : Int) 1 = m := by omega
          have hm3 : m ≤ 4 := by omega
          clear hm
          go_wp2_with (refine (RU.out _).mono ?_; rintro e w3 ⟨rfl, hs3⟩)
          go_roundw
          case rel => exact ⟨c, a + m, j + 1, by omega, hst4, by go_num, by go_num, by show _ = _; rw [← HP.out, HS.out], Step.of⟩
          case measure => simp [intOf]; try omega
      · obtain rfl : a = R := by rw [← HP.out, preN_stop (by omega)]
        have hal : decide (a < s.size) = false := by simpa using hlt
        clear hlt
        go_wp2_with fail
        go_ret
        exact ⟨rfl, Step.of⟩
theorem fieldMay_any (f : Fld) (w : World) : Calls Tryd.prog 90 #[.agg #[.int .i64 f.source, .int .i64 f.trans, .int .i64 f.param]] w fun e w' => e = .returned (.bool (paramB f)) ∧ Step w w' := by
  obtain ⟨so, t, p⟩ := f
  by_cases h0 : t = 0
  · subst h0
    have HP : Hid (paramB ⟨so, 0, p⟩ = (p == 0)) := by show _ = _; simp [paramB]
    rw [HP.out]
    clear HP
    go_enter Tryd.func90, Tryd.ntmps90
    go_wp2_with fail
    go_ret
    exact ⟨rfl, Step.of⟩
  · have h0b : (t == 0) = false := by simpa using h0
    by_cases h12 : t = 1 ∨ t = 2
    · have HP : Hid (paramB ⟨so, t, p⟩ = (decide (1 ≤ p) && decide (p ≤ 1024))) := by show _ = _; simp only [paramB]; rw [if_neg h0, if_pos h12]
      rw [HP.out]
      clear HP
      rcases h12 with rfl | rfl <;> by_cases h1 : 1 ≤ p
      all_goals
        clear h0
        go_enter Tryd.func90, Tryd.ntmps90
        go_wp2_with fail
        go_ret
        exact ⟨ret_bool (by simp [h1]; try omega), Step.of⟩
    · have HP : Hid (paramB ⟨so, t, p⟩ = false) := by show _ = _; simp only [paramB]; rw [if_neg h0, if_neg h12]
      rw [HP.out]
      have h1b : (t == 1) = false := by simp; omega
      have h2b : (t == 2) = false := by simp; omega
      clear HP h12 h0
      go_enter Tryd.func90, Tryd.ntmps90
      go_wp2_with fail
      go_ret
      exact ⟨rfl, Step.of⟩
theorem byte_nat (v : Int) : ∀ m : Nat, m < 8 → (((v % 18446744073709551616).toNat / 256 ^ (7 - m) % 256 : Nat) : Int) = v / 2 ^ (56 - 8 * m) % 256
  | 0, _ => by simp only [Nat.reduceSub, Nat.reducePow, Nat.reduceMul]; omega
  | 1, _ => by simp only [Nat.reduceSub, Nat.reducePow, Nat.reduceMul]; omega
  | 2, _ => by simp only [Nat.reduceSub, Nat.reducePow, Nat.reduceMul]; omega
  | 3, _ => by simp only [Nat.reduceSub, Nat.reducePow, Nat.reduceMul]; omega
  | 4, _ => by simp only [Nat.reduceSub, Nat.reducePow, Nat.reduceMul]; omega
  | 5, _ => by simp only [Nat.reduceSub, Nat.reducePow, Nat.reduceMul]; omega
  | 6, _ => by simp only [Nat.reduceSub, Nat.reducePow, Nat.reduceMul]; omega
  | 7, _ => by simp only [Nat.reduceSub, Nat.reducePow, Nat.reduceMul]; omega
set_option maxRecDepth 10000 in
set_option maxHeartbeats 2000000 in
theorem rbytes_any (v : Val) (w : World) : Calls Tryd.prog 92 #[.agg #[.int .i64 v.kind, .int .i64 v.i, .bool v.b, .string v.s]] w fun e w' => e = .returned (.string (bytesT v)) ∧ Step w w' := by
  by_cases h1 : v.kind = 1
  · have h1b : (v.kind == 1) = true := by simpa using h1
    have hmk : ∀ w : World, (Instr.makeSlice 154 (.int .i64 8) (.int .i64 8)).run Tryd.prog w = .ok (.slice (some ⟨w.heap.size, 0, none⟩) 8 8) (w.alloc (.cells #[.int .u8 0, .int .u8 0, .int .u8 0, .int .u8 0, .int .u8 0, .int .u8 0, .int .u8 0, .int .u8 0] 5)) := fun _ => by kernel_rfl
    obtain ⟨W, hW⟩ : ∃ W, W = (w.alloc (.cells #[.int .i64 1, .int .i64 v.i, .bool v.b, .string v.s] 57)).alloc (.cells #[.int .u8 0, .int .u8 0, .int .u8 0, .int .u8 0, .int .u8 0, .int .u8 0, .int .u8 0, .int .u8 0] 5) := ⟨_, rfl⟩
    have SW : Step w W := by rw [hW]; exact Step.of
    have HB1 : Hid (Blk W (w.heap.size + 1) 5 (List.replicate 8 (.int .u8 0))) := by rw [hW]; exact Blk.new_at (by simp) (List.replicate 8 (.int .u8 0)) 5
    have HW := hide hW
    clear hW
    obtain ⟨X, hX⟩ : ∃ X : Nat, v.i % 18446744073709551616 = X := ⟨(v.i % 18446744073709551616).toNat, by omega⟩
    have hXl : X < 18446744073709551616 := by omega
    have hu : IntKind.u64.wrap v.i = X := by rw [IntKind.wrap_u64]; exact hX
    have HX := hide (byte_nat v.i)
    have HX : Hid (∀ m : Nat, m < 8 → ((X / 256 ^ (7 - m) % 256 : Nat) : Int) = v.i / 2 ^ (56 - 8 * m) % 256) := fun m hm => by
      have := HX.out m hm
      rw [show (v.i % 18446744073709551616).toNat = X by omega] at this
      exact this
    clear hX
    go_enter Tryd.func92, Tryd.ntmps92
    go_wp2_with fail
    rw [← HW.out]
    clear hmk hu
    go_loopw [4, 5] (fun x i wr => ∃ n y : Nat, n ≤ 8 ∧ i = .int .i64 ((n : Int) - 1) ∧ x = .int .u64 y ∧ y < 18446744073709551616 ∧ Hid (y = X / 256 ^ (8 - n)) ∧ Blk wr (w.heap.size + 1) 5 (List.replicate n (.int .u8 0) ++ ((List.range 8).map (byteF v.i)).drop n) ∧ Step w wr) (fun _ i _ => (intOf i + 1).toNat)
    case atStart => exact ⟨8, X, by omega, rfl, rfl, hXl, by show _ = _; simp, by rw [show ((List.range 8).map (byteF v.i)).drop 8 = [] by simp, List.append_nil]; exact HB1.out, SW⟩
    case round =>
      obtain ⟨n, y, hn, rfl, rfl, hy, HY, hb1, hst⟩ := hrel
      have HB1 := hide hb1
      clear hb1
      obtain ⟨wo, hwo⟩ : ∃ x : World, x = wr := ⟨_, rfl⟩
      rw [← hwo] at HB1 hst
      rw [← hwo]
      clear hwo
      have hzo := hst.size
      by_cases hn0 : n = 0
      · subst hn0
        have HB1 : Hid (Blk wo (w.heap.size + 1) 5 ((List.range 8).map (byteF v.i))) := hide (by simpa using HB1.out)
        have lp := HB1.out.lt
        have hcv := run_convert_bytes_back (P := Tryd.prog) wo 154 9 5 ⟨w.heap.size + 1, 0, none⟩ 8 ((List.range 8).map (byteT v.i)) Tryd.underlying154 Tryd.underlying5 Tryd.underlying9 (fun j hj => by
          have hj8 : j < 8 := by simpa using hj
          have := HB1.out.at0 j (byteF v.i j) (by simp [hj8])
          rw [Addr.add_lit]
          simpa [byteF] using this)
        rw [show ((List.range 8).map (byteT v.i)).length = 8 by simp] at hcv
        have HE : Hid (bytesT v = ⟨((List.range 8).map (byteT v.i)).toArray⟩) := by show _ = _; rw [bytesT, if_pos h1]; rfl
        generalize ((List.range 8).map (byteT v.i)).toArray = ar at hcv HE
        go_wp2_with fail
        go_ret
        exact ⟨by rw [HE.out]; rfl, Step.of⟩
      · obtain ⟨m, rfl⟩ : ∃ m, n = m + 1 := ⟨n - 1, by omega⟩
        have e1 : (((m + 1 : Nat) : Int) - 1) = (m : Int) := by omega
        rw [e1]
        have hm8 : (m : Int) < 8 := by omega
        have hm0 : (0 : Int) ≤ (m : Int) := by omega
        have lp := HB1.out.lt
        have f1 := HB1.out.free
        have c0 : wo.cell? ⟨w.heap.size + 1, m, none⟩ = some (.int .u8 0) := by
          have := HB1.out.at0 m (.int .u8 0) (by rw [List.getElem?_append_left (by simp), List.getElem?_replicate, if_pos (by omega)])
          simpa using this
        have HM := hide (HX.out m (by omega))
        have HQ : Hid (y = X / 256 ^ (7 - m)) := by show _ = _; rw [HY.out, show 8 - (m + 1) = 7 - m by omega]
        clear hn0 e1
        go_wp2_with fail
        go_roundw
        case rel =>
          refine ⟨m, y / 256, by omega, rfl, by go_num, by omega, ?_, ?_, ⟨hst.below.setCell (by simp) _⟩⟩
          · show _ = _
            rw [HQ.out, Nat.div_div_eq_div_mul, show 8 - m = (7 - m) + 1 by omega, Nat.pow_succ]
          · have h3 := HB1.out.set_ m (.int .u8 ((y : Int) % 256))
            have e2 : (Value.int .u8 ((y : Int) % 256)) = byteF v.i m := by
              rw [byteF_eq, ← HM.out, ← HQ.out]
              rfl
            rw [e2] at h3 ⊢
            have e3 : (List.replicate (m + 1) (Value.int .u8 0) ++ ((List.range 8).map (byteF v.i)).drop (m + 1)).set m (byteF v.i m) = List.replicate m (Value.int .u8 0) ++ ((List.range 8).map (byteF v.i)).drop m := by
              rw [List.replicate_succ', List.append_assoc, List.set_append_right _ _ (by simp), List.length_replicate, Nat.sub_self]
              rw [List.drop_eq_getElem_cons (i := m) (by simp; omega)]
              simp
            rw [← e3]
            exact h3
        case measure => simp [intOf]; try omega
  · have h1b : (v.kind == 1) = false := by simpa using h1
    by_cases h2 : v.kind = 2
    · have h2b : (v.kind == 2) = true := by simpa using h2
      cases hb : v.b with
      | true =>
        have HE : Hid (bytesT v = ⟨#[1]⟩) := by show _ = _; rw [bytesT, if_neg h1, if_pos h2, hb]; rfl
        clear h1 h2
        go_enter Tryd.func92, Tryd.ntmps92
        go_wp2_with fail
        go_ret
        exact ⟨by rw [HE.out]; rfl, Step.of⟩
      | false =>
        have HE : Hid (bytesT v = ⟨#[0]⟩) := by show _ = _; rw [bytesT, if_neg h1, if_pos h2, hb]; rfl
        clear h1 h2
        go_enter Tryd.func92, Tryd.ntmps92
        go_wp2_with fail
        go_ret
        exact ⟨by rw [HE.out]; rfl, Step.of⟩
    · have h2b : (v.kind == 2) = false := by simpa using h2
      have HE : Hid (bytesT v = v.s) := by show _ = _; rw [bytesT, if_neg h1, if_neg h2]
      clear h1 h2
      go_enter Tryd.func92, Tryd.ntmps92
      go_wp2_with fail
      go_ret
      exact ⟨by rw [HE.out]; rfl, Step.of⟩
end Go.Proofs.YtafgfehjdbomfaaDoor
namespace Go.Proofs.YtafgfehjdbomfaaDoor
open Go.RowKit

section
variable {P : Program}
/-- A whole array stored into a variable. -/
theorem wp_store_row {o : Oper} {a : Act} {w : World} {K : Act → World → Prop} {Q : Exit → Act → World → Prop} (ty : TypeId) (x y : Operand) (ho : o.op = .store ty x y) (hd : o.dst = none)
    (g : Nat) (hx : a.eval x = .pointer (some ⟨g, 0, none⟩)) (t : TypeId) (cs old : Array Value) (hy : a.eval y = .agg cs) (hg : w.heap[g]? = some (.cells old t (0, 0))) (hs : cs.size = old.size)
    (h1 : ∀ v ∈ cs.toList, v.oneCell' = true) (hi : (P.info? ty).map (·.size) = some cs.size) (h : K a (w.setRow g cs)) : o.wp P a w K Q := by
  have hrun : (storeVar ty ⟨g, 0, none⟩ (.agg cs)).run P w = .ok () (w.setRow g cs) := by
    cases hq : P.info? ty with
    | none => simp [hq] at hi
    | some i =>
      have hsz : i.size = cs.size := by simpa [hq] using hi
      have := run_storeCells_at P g 0 t cs.toList 0 old w hg (by simp; omega) h1
      simp at this
      rw [show old.toList.drop cs.size = [] by apply List.drop_of_length_le; simp; omega] at this
      simp at this
      simp [storeVar, Value.cells, sizeOf, typeInfo, hq, hsz, this]
  unfold Oper.wp execOp
  simp only [ho, hx, hy, Instr.storeAt, Instr.sureAddr, Sem.run_bind, Sem.run_pure, Result.andThen_ok, hrun]
  simpa [Oper.upon, hd, Act.put] using h
theorem wpList_store_row {ops : Array Oper} {rest : List Oper} {o : Oper} {a : Act} {w : World} {Q : Exit → Act → World → Prop} (hgd : o.guard = none) (ty : TypeId) (x y : Operand) (ho : o.op = .store ty x y) (hd : o.dst = none)
    (g : Nat) (hx : a.eval x = .pointer (some ⟨g, 0, none⟩)) (t : TypeId) (cs old : Array Value) (hy : a.eval y = .agg cs) (hg : w.heap[g]? = some (.cells old t (0, 0))) (hs : cs.size = old.size)
    (h1 : ∀ v ∈ cs.toList, v.oneCell' = true) (hi : (P.info? ty).map (·.size) = some cs.size) (h : wpList P ops Q rest a (w.setRow g cs)) : wpList P ops Q (o :: rest) a w :=
  wpList_plain hgd fun _ hK => wp_store_row ty x y ho hd g hx t cs old hy hg hs h1 hi (hK _ _ h)
end
def tabF (i : Nat) : Value := .int .u32 (stepsC 8 i : Nat)
def tabL : List Value := (List.range 256).map tabF
theorem bit1 {y : Nat} (h : y < 4294967296) : bits .and .u32 (y : Int) 1 = ((y % 2 : Nat) : Int) := by
  have := u32_and_nat y 1 h (by omega)
  rw [nat_mask1] at this
  exact this
theorem zero_at {k : Nat} (h : k < 256) : ((List.range k).map tabF ++ List.replicate (256 - k) (Value.int .u32 0))[k]? = some (.int .u32 0) := by
  rw [List.getElem?_append_right (by simp), List.getElem?_replicate, if_pos (by simp; omega)]
theorem tab_one : ∀ v ∈ (tabL.toArray).toList, v.oneCell' = true := fun v hv => by
  simp [tabL] at hv
  obtain ⟨i, _, rfl⟩ := hv
  rfl
set_option maxRecDepth 100000 in
set_option maxHeartbeats 4000000 in
theorem rcrc_any (s : ByteArray) (w : World) (hs : s.size ≤ 9223372036854775807) : Calls Tryd.prog 91 #[.string s] w fun e w' => e = .returned (.int .i64 (crcT s : Nat)) ∧ Step w w' := by
  obtain ⟨T, hT⟩ : ∃ T, crcT s = T := ⟨_, rfl⟩
  have HT := hide hT
  rw [hT]
  clear hT
  go_enter Tryd.func91, Tryd.ntmps91
  go_wp2
  go_loop [3, 4, 5] (fun x i _ => ∃ k y : Nat, k ≤ s.size ∧ i = .int .i64 k ∧ x = .int .u32 y ∧ Hid (y = sumC 4294967295 (s.data.toList.take k)) ∧ y < 4294967296) (fun _ i _ => s.size - (intOf i).toNat)
  case atStart => exact ⟨0, 4294967295, Nat.zero_le _, rfl, rfl, rfl, by omega⟩
  case round =>
    obtain ⟨k, y, hk, rfl, rfl, HY, hy⟩ := hrel
    by_cases hlt : k < s.size
    · have hkl : (k : Int) < (s.size : Int) := by omega
      have hk0 : (0 : Int) ≤ (k : Int) := by omega
      have hc := s[k].toNat_lt
      have HS : Hid (sumC 4294967295 (s.data.toList.take (k + 1)) = stepsC 8 (y ^^^ s[k].toNat)) := by
        show _ = _
        rw [List.take_add_one, List.getElem?_eq_getElem (by simpa using hlt), sumC, List.foldl_append, HY.out]
        rfl
      have q1 := u32_xor_nat y s[k].toNat hy (by omega)
      have hx0 : y ^^^ s[k].toNat < 4294967296 := Nat.xor_lt_two_pow (n := 32) (by omega) (by omega)
      obtain ⟨v, hv⟩ : ∃ v, y ^^^ s[k].toNat = v := ⟨_, rfl⟩
      rw [hv] at q1 hx0 HS
      clear hv
      go_wp2_with fail
      go_loop [3, 5] (fun x i => ∃ j u : Nat, j ≤ 8 ∧ i = .int .i64 j ∧ x = .int .u32 u ∧ Hid (u = stepsC j v) ∧ u < 4294967296) (fun _ i => 8 - (intOf i).toNat)
      case atStart => exact ⟨0, v, by omega, rfl, rfl, rfl, hx0⟩
      case round =>
        clear q1
        obtain ⟨j, u, hj, rfl, rfl, HU, hu⟩ := hrel
        by_cases hlj : j < 8
        · have hjl : (j : Int) < 8 := by omega
          have HSU : Hid (stepC u = stepsC (j + 1) v) := by show _ = _; rw [HU.out]; rfl
          rcases Nat.mod_two_eq_zero_or_one u with hm | hm
          · have hb : (bits .and .u32 (u : Int) 1 == 1) = false := by rw [bit1 hu, hm]; rfl
            have hu2 : stepC u = u / 2 := by rw [stepC, if_neg (by omega)]
            rw [hu2] at HSU
            clear hu2 hm
            go_wp2_with fail
            go_round
            case rel => exact ⟨j + 1, u / 2, by omega, by go_num, by go_num, HSU.out, by omega⟩
            case measure => simp [intOf]; omega
          · have hb : (bits .and .u32 (u : Int) 1 == 1) = true := by rw [bit1 hu, hm]; rfl
            have hu2 : stepC u = (u / 2) ^^^ 3988292384 := by rw [stepC, if_pos hm]
            have hx : bits .xor .u32 ((u : Int) / 2) 3988292384 = ((stepC u : Nat) : Int) := by rw [hu2]; exact u32_xor_nat (u / 2) 3988292384 (by omega) (by omega)
            have hlt2 := stepC_lt hu
            clear hu2 hm
            generalize stepC u = z at HSU hx hlt2
            go_wp2_with fail
            go_round
            case rel => exact ⟨j + 1, z, by omega, by go_num, rfl, HSU.out, hlt2⟩
            case measure => simp [intOf]; omega
        · obtain rfl : j = 8 := by omega
          go_wp2_with fail
          go_round
          case rel => exact ⟨k + 1, u, by omega, by go_num, rfl, by show _ = _; rw [HS.out, HU.out], hu⟩
          case measure => simp [intOf]; omega
    · obtain rfl : k = s.size := by omega
      have q1 := u32_xor_nat y 4294967295 hy (by omega)
      have hx0 : y ^^^ 4294967295 < 4294967296 := Nat.xor_lt_two_pow (n := 32) (by omega) (by omega)
      have HE : Hid (T = y ^^^ 4294967295) := by
        show _ = _
        rw [← HT.out, crcT, ← show s.data.toList.take s.size = s.data.toList from List.take_of_length_le (by simp), ← HY.out]
      generalize y ^^^ 4294967295 = z at q1 hx0 HE
      have q2 : bits .xor .u32 (y : Int) 4294967295 = (z : Int) := q1
      clear q1
      go_wp2_with fail
      go_ret
      exact ⟨ret_int (by rw [HE.out]), Step.of⟩
end Go.Proofs.YtafgfehjdbomfaaDoor
namespace Go.Proofs.YtafgfehjdbomfaaDoor
open Go.RowKit

theorem applyR_bad {f : Fld} {v : Val} (h : paramB f = false) : applyR f v = (Val.zero, 1300) := by rw [applyR, if_pos h]
theorem applyR_same {f : Fld} {v : Val} (h : paramB f = true) (h2 : kindV v = 0 ∨ f.trans = 0) : applyR f v = (clean v, 0) := by rw [applyR, if_neg (by rw [h]; simp), if_pos h2]
theorem applyR_bucket {f : Fld} {v : Val} (h : paramB f = true) (h2 : ¬ (kindV v = 0 ∨ f.trans = 0)) (h3 : f.trans = 1) : applyR f v = (⟨1, (crcT (bytesT (clean v)) : Int) % f.param, false, .empty⟩, 0) := by rw [applyR, if_neg (by rw [h]; simp), if_neg h2, if_pos h3]
theorem applyR_int {f : Fld} {v : Val} (h : paramB f = true) (h2 : ¬ (kindV v = 0 ∨ f.trans = 0)) (h3 : f.trans ≠ 1) (h4 : kindV v = 1) : applyR f v = (⟨1, floorT (clean v).i f.param, false, .empty⟩, 0) := by rw [applyR, if_neg (by rw [h]; simp), if_neg h2, if_neg h3, if_pos h4]
theorem applyR_text {f : Fld} {v : Val} (h : paramB f = true) (h2 : ¬ (kindV v = 0 ∨ f.trans = 0)) (h3 : f.trans ≠ 1) (h4 : kindV v = 3) : applyR f v = (⟨3, 0, false, firstT (clean v).s f.param⟩, 0) := by rw [applyR, if_neg (by rw [h]; simp), if_neg h2, if_neg h3, if_neg (by omega), if_pos h4]
theorem applyR_bool {f : Fld} {v : Val} (h : paramB f = true) (h2 : ¬ (kindV v = 0 ∨ f.trans = 0)) (h3 : f.trans ≠ 1) (h4 : kindV v = 2) : applyR f v = (Val.zero, 1300) := by rw [applyR, if_neg (by rw [h]; simp), if_neg h2, if_neg h3, if_neg (by omega), if_neg (by omega)]
theorem param_bd {f : Fld} (h : paramB f = true) (h0 : f.trans ≠ 0) : 1 ≤ f.param ∧ f.param ≤ 1024 := by
  unfold paramB at h
  rw [if_neg h0] at h
  split at h
  · simpa using h
  · cases h
/-- The value's bytes are the call's own word for it. -/
def AG (v : Val) : Value := .agg #[.int .i64 (kindV v), .int .i64 (clean v).i, .bool (clean v).b, .string (clean v).s]
theorem clean_ag (v : Val) : (clean v).val = .agg #[.int .i64 (kindV v), .int .i64 (clean v).i, .bool (clean v).b, .string (clean v).s] := by
  show Value.agg #[_, _, _, _] = _
  rw [clean_kind]
set_option maxRecDepth 100000 in
set_option maxHeartbeats 8000000 in
theorem rapply_any (f : Fld) (v : Val) (w : World) (hv : v.s.size ≤ 9223372036854775000) (hi1 : -9223372036854775808 ≤ v.i) (hi2 : v.i ≤ 9223372036854775807) :
    Calls Tryd.prog 61 #[.agg #[.int .i64 f.source, .int .i64 f.trans, .int .i64 f.param], .agg #[.int .i64 v.kind, .int .i64 v.i, .bool v.b, .string v.s]] w fun e w' => e = .returned (.tuple #[(applyR f v).1.val, .int .i64 (applyR f v).2]) ∧ Step w w' := by
  obtain ⟨T, hT⟩ : ∃ T, applyR f v = T := ⟨_, rfl⟩
  have HT := hide hT
  rw [hT]
  clear hT
  obtain ⟨W, hW⟩ : ∃ W, W = ((w.alloc (.cells #[.int .i64 f.source, .int .i64 f.trans, .int .i64 f.param] 98)).alloc (.cells #[.int .i64 v.kind, .int .i64 v.i, .bool v.b, .string v.s] 57)).alloc (.cells #[.int .i64 0, .int .i64 0, .bool false, .string ⟨#[]⟩] 57) := ⟨_, rfl⟩
  have SW : Step w W := by rw [hW]; exact Step.of
  have HFB : Hid (Blk W w.heap.size 98 [.int .i64 f.source, .int .i64 f.trans, .int .i64 f.param]) := by rw [hW]; exact ((Blk.new w [.int .i64 f.source, .int .i64 f.trans, .int .i64 f.param] 98).alloc _).alloc _
  have HVB : Hid (Blk W (w.heap.size + 1) 57 [.int .i64 v.kind, .int .i64 v.i, .bool v.b, .string v.s]) := by rw [hW]; exact (Blk.new_at (by simp) [.int .i64 v.kind, .int .i64 v.i, .bool v.b, .string v.s] 57).alloc _
  have HRB : Hid (Blk W (w.heap.size + 1 + 1) 57 [.int .i64 0, .int .i64 0, .bool false, .string ⟨#[]⟩]) := by rw [hW]; exact Blk.new_at (by simp) [.int .i64 0, .int .i64 0, .bool false, .string ⟨#[]⟩] 57
  have HW := hide hW
  have hzW := SW.size
  clear hW
  have PP := hide (fieldMay_any f)
  cases hp : paramB f with
  | false =>
    have hE : Hid (T = (Val.zero, 1300)) := by show _ = _; rw [← HT.out]; exact applyR_bad hp
    rw [hp] at PP
    clear hp
    go_enter Tryd.func61, Tryd.ntmps61
    go_wp2_with (go_at_call 90; (with_reducible refine (PP.out _).mono ?_); rintro e w1 ⟨rfl, hs1⟩; rw [← HW.out] at hs1; have br := HRB.out.fut (w' := w1); obtain ⟨r0, r1, r2, r3⟩ := At.z4 br.at0; have fr := br.free; have lr := br.lt; have HRY := hide br; clear br)
    have HD := hide ((((HRY.out.set_ 0 (.int .i64 0)).set_ 1 (.int .i64 0)).set_ 2 (.bool false)).set_ 3 (.string ⟨#[]⟩))
    obtain ⟨t0, t1, t2, t3⟩ := At.z4 HD.out.at0
    refine bodyPost_ret (v := .tuple #[.agg #[.int .i64 0, .int .i64 0, .bool false, .string ⟨#[]⟩], .int .i64 1300]) (by simp [results, Tryd.results61, go_sem, t0, t1, t2, t3]) rfl ⟨by rw [hE.out]; rfl, Step.of⟩
  | true =>
    have HP := hide hp
    rw [hp] at PP
    clear hp
    have pv := vclean_any v
    rw [clean_ag] at pv
    unfold Val.val at pv
    have PV := hide pv
    clear pv
    obtain ⟨k0, k3⟩ := kindV_bd v
    have hcs : (clean v).s.size ≤ 9223372036854775000 := by
      unfold clean
      split
      · exact Nat.zero_le _
      split
      · exact Nat.zero_le _
      split
      · exact hv
      · exact Nat.zero_le _
    have hci : -9223372036854775808 ≤ (clean v).i ∧ (clean v).i ≤ 9223372036854775807 := by
      unfold clean
      split
      · exact ⟨hi1, hi2⟩
      split
      · exact ⟨show (-9223372036854775808 : Int) ≤ 0 by decide, show (0 : Int) ≤ 9223372036854775807 by decide⟩
      split
      · exact ⟨show (-9223372036854775808 : Int) ≤ 0 by decide, show (0 : Int) ≤ 9223372036854775807 by decide⟩
      · exact ⟨show (-9223372036854775808 : Int) ≤ 0 by decide, show (0 : Int) ≤ 9223372036854775807 by decide⟩
    obtain ⟨hci1, hci2⟩ := hci
    have pb := fun w' => rbytes_any (clean v) w'
    rw [clean_kind] at pb
    have PB := hide pb
    clear pb
    have HR0 := hide (fun h2 : kindV v = 0 ∨ f.trans = 0 => applyR_same (v := v) HP.out h2)
    have HCV := hide (clean_ag v)
    go_enter Tryd.func61, Tryd.ntmps61
    go_upto_region 4 with (first
      | (go_at_call 90; (with_reducible refine (PP.out _).mono ?_); rintro e w1 ⟨rfl, hs1⟩; rw [← HW.out] at hs1; have bv := HVB.out.fut (w' := w1); obtain ⟨x0, x1, x2, x3⟩ := At.z4 bv.at0; have lx := bv.lt; clear bv)
      | (go_at_call 49; (with_reducible refine (PV.out _).mono ?_); rintro e w3 ⟨rfl, hs3⟩; clear x0 x1 x2 x3 lx; have bv := HVB.out.fut (w' := w3); obtain ⟨x0, x1, x2, x3⟩ := At.z4 bv.at0; have fx := bv.free; have lx := bv.lt; have HV3 := hide bv; clear bv))
    obtain ⟨X, hX⟩ : ∃ X, X = (((w3.setCell ⟨w.heap.size + 1, 0, none⟩ (.int .i64 (kindV v))).setCell ⟨w.heap.size + 1, 1, none⟩ (.int .i64 (clean v).i)).setCell ⟨w.heap.size + 1, 2, none⟩ (.bool (clean v).b)).setCell ⟨w.heap.size + 1, 3, none⟩ (.string (clean v).s) := ⟨_, rfl⟩
    have HVX : Hid (Blk X (w.heap.size + 1) 57 [.int .i64 (kindV v), .int .i64 (clean v).i, .bool (clean v).b, .string (clean v).s]) := by rw [hX]; exact (((HV3.out.set_ 0 (.int .i64 (kindV v))).set_ 1 (.int .i64 (clean v).i)).set_ 2 (.bool (clean v).b)).set_ 3 (.string (clean v).s)
    have HFX : Hid (Blk X w.heap.size 98 [.int .i64 f.source, .int .i64 f.trans, .int .i64 f.param]) := by rw [hX]; exact ((((HFB.out.fut (w' := w3)).far (by simp) _).far (by simp) _).far (by simp) _).far (by simp) _
    have HRX : Hid (Blk X (w.heap.size + 1 + 1) 57 [.int .i64 0, .int .i64 0, .bool false, .string ⟨#[]⟩]) := by rw [hX]; exact ((((HRB.out.fut (w' := w3)).far (by simp) _).far (by simp) _).far (by simp) _).far (by simp) _
    have SX : Step w X := by rw [hX]; exact Step.of
    rw [← hX]
    clear hX x0 x1 x2 x3 fx lx hs3 hs1
    have hzX := SX.size
    obtain ⟨x0, x1, x2, x3⟩ := At.z4 HVX.out.at0; have lx := HVX.out.lt
    obtain ⟨y0, y1, y2⟩ := At.z3 HFX.out.at0; have ly := HFX.out.lt
    obtain ⟨r0, r1, r2, r3⟩ := At.z4 HRX.out.at0; have fr := HRX.out.free; have lr := HRX.out.lt
    have LE2 : Hid (w.heap.size + 1 + 1 ≤ X.heap.size) := by show _ ≤ _; omega
    by_cases hz0 : kindV v = 0
    · have hE : Hid (T = (Val.zero, 0)) := by
        show _ = _
        rw [← HT.out, HR0.out (.inl hz0)]
        have : clean v = Val.zero := by
          unfold kindV at hz0
          have h4 : ¬ (v.kind = 1 ∨ v.kind = 2 ∨ v.kind = 3) := fun h => by rw [if_pos h] at hz0; omega
          unfold clean
          rw [if_neg (by omega), if_neg (by omega), if_neg (by omega)]
        rw [this]
      have hg : (kindV v == 0) = true := by rw [hz0]; rfl
      clear hz0
      have HD := hide ((((HRX.out.set_ 0 (.int .i64 0)).set_ 1 (.int .i64 0)).set_ 2 (.bool false)).set_ 3 (.string ⟨#[]⟩))
      obtain ⟨t0, t1, t2, t3⟩ := At.z4 HD.out.at0
      go_wp2_with fail
      refine bodyPost_ret (v := .tuple #[.agg #[.int .i64 0, .int .i64 0, .bool false, .string ⟨#[]⟩], .int .i64 0]) (by simp [results, Tryd.results61, go_sem, t0, t1, t2, t3]) rfl ⟨by rw [hE.out]; rfl, Step.of⟩
    have hg0 : (kindV v == 0) = false := by simpa using hz0
    by_cases hsame : f.trans = 0
    · have hE : Hid (T = (clean v, 0)) := by show _ = _; rw [← HT.out]; exact HR0.out (.inr hsame)
      have hg : (f.trans == 0) = true := by rw [hsame]; rfl
      clear hsame hz0
      have HD := hide ((((HRX.out.set_ 0 (.int .i64 (kindV v))).set_ 1 (.int .i64 (clean v).i)).set_ 2 (.bool (clean v).b)).set_ 3 (.string (clean v).s))
      obtain ⟨t0, t1, t2, t3⟩ := At.z4 HD.out.at0
      go_wp2_with fail
      refine bodyPost_ret (v := .tuple #[.agg #[.int .i64 (kindV v), .int .i64 (clean v).i, .bool (clean v).b, .string (clean v).s], .int .i64 0]) (by simp [results, Tryd.results61, go_sem, t0, t1, t2, t3]) rfl ⟨by rw [hE.out]; exact congrArg (fun x => Ending.returned (.tuple #[x, .int .i64 0])) HCV.out.symm, Step.of⟩
    · have hg1 : (f.trans == 0) = false := by simpa using hsame
      have hb := param_bd HP.out (by omega)
      obtain ⟨hb1, hb2⟩ := hb
      have HN : Hid (¬ (kindV v = 0 ∨ f.trans = 0)) := hide (by omega)
      have hpn : ¬ f.param = 0 := by omega
      by_cases h1 : f.trans = 1
      · have h1b : (f.trans == 1) = true := by simpa using h1
        have hE : Hid (T = (⟨1, (crcT (bytesT (clean v)) : Int) % f.param, false, .empty⟩, 0)) := by show _ = _; rw [← HT.out]; exact applyR_bucket HP.out HN.out h1
        have CO := hide (fun w' hb => rcrc_any (bytesT (clean v)) w' hb)
        have hbz : (bytesT (clean v)).size ≤ 9223372036854775807 := by
          unfold bytesT
          split
          · exact Nat.le_trans (by simp [be8, ByteArray.size]) (show 8 ≤ 9223372036854775807 by decide)
          split
          · split <;> exact Nat.le_trans (Nat.le_refl 1) (by decide)
          · omega
        have CO := hide (fun w' => CO.out w' hbz)
        have hcl := crcT_lt (bytesT (clean v))
        generalize crcT (bytesT (clean v)) = z at CO hE hcl
        have hmod : ((z : Nat) : Int).tmod f.param = (z : Int) % f.param := Int.tmod_eq_emod_of_nonneg (by omega)
        have hz1 := Int.emod_nonneg (z : Int) (show f.param ≠ 0 by omega)
        have hz2 := Int.emod_lt_of_pos (z : Int) (show 0 < f.param by omega)
        obtain ⟨q, hq⟩ : ∃ q, (z : Int) % f.param = q := ⟨_, rfl⟩
        rw [hq] at hmod hE hz1 hz2
        clear h1 hsame hz0 hq
        go_upto_region 9 with (fail)
        refine wp_region_held_drew (S := (fun w' => Step w w' ∧ (∀ b o, b < w.heap.size + 1 + 1 → w'.cell? ⟨b, o, none⟩ = X.cell? ⟨b, o, none⟩))) (by kernel_rfl) (by (try dsimp only); (first | exact ⟨hS1, hS2⟩ | exact ⟨Step.of, fun b o h => ((fut X _).mono LE2.out).cell (p := ⟨b, o, none⟩) h⟩)) (fun hHeld => ?_)
        refine wpAnyH_take (i := 0) (oi := ⟨some 27, _, _, _, _, _⟩) (v := ?_) rfl (by kernel_rfl) (by kernel_rfl) (by kernel_rfl) (fun _ _ _ h => h) (Or.inl ⟨by rfl, ?_⟩) (by assumption) ?_
        rotate_left
        · ((intro w hSw); (try dsimp only at hSw); go_simp; (try with_reducible rfl))
        (try simp only [Act.put, List.setIfInBounds_toArray, List.set_cons_zero, List.set_cons_succ])
        refine wpAnyH_take (i := 3) (oi := ⟨some 30, _, _, _, _, _⟩) (v := ?_) rfl (by kernel_rfl) (by kernel_rfl) (by kernel_rfl) (fun _ _ _ h => h) (Or.inl ⟨by rfl, ?_⟩) (by assumption) ?_
        rotate_left
        · ((intro w hSw); (try dsimp only at hSw); go_simp; (try with_reducible rfl))
        (try simp only [Act.put, List.setIfInBounds_toArray, List.set_cons_zero, List.set_cons_succ])
        refine wpAnyH_take (i := 4) (oi := ⟨some 31, _, _, _, _, _⟩) (v := ?_) rfl (by kernel_rfl) (by kernel_rfl) (by kernel_rfl) (fun _ _ _ h => h) (Or.inl ⟨by rfl, ?_⟩) (by assumption) ?_
        rotate_left
        · ((intro w hSw); (try dsimp only at hSw); go_simp; (try with_reducible rfl))
        (try simp only [Act.put, List.setIfInBounds_toArray, List.set_cons_zero, List.set_cons_succ])
        refine wpAnyH_ready (rs := [1]) (by kernel_rfl) (by simp) ?_
        refine AllReadyH.cons (o := ⟨some 28, _, _, _, _, _⟩) rfl (fun K hK => ?_) AllReadyH.nil
        obtain ⟨hS1, hS2⟩ := hHeld
        go_simp
        (go_at_call 92; (with_reducible refine (PB.out _).mono ?_); rintro e w4 ⟨rfl, hw4⟩; have br := HRX.out.fut (w' := w4); clear r0 r1 r2 r3 fr lr; obtain ⟨r0, r1, r2, r3⟩ := At.z4 br.at0; have fr := br.free; have lr := br.lt; have HRY := hide br; clear br)
        refine hK.out _ _ (by (try dsimp only); (first | exact ⟨hS1, hS2⟩ | exact ⟨Step.of, fun b o h => ((fut X _).mono LE2.out).cell (p := ⟨b, o, none⟩) h⟩)) (fun hHeld => ?_)
        clear hK K
        (try simp only [Act.put, List.setIfInBounds_toArray, List.set_cons_zero, List.set_cons_succ])
        refine wpAnyH_ready (rs := [2]) (by kernel_rfl) (by simp) ?_
        refine AllReadyH.cons (o := ⟨some 29, _, _, _, _, _⟩) rfl (fun K hK => ?_) AllReadyH.nil
        obtain ⟨hS1, hS2⟩ := hHeld
        go_simp
        (go_at_call 91; (with_reducible refine (CO.out _).mono ?_); rintro e w5 ⟨rfl, hw5⟩; have br := HRX.out.fut (w' := w5); clear r0 r1 r2 r3 fr lr HRY; obtain ⟨r0, r1, r2, r3⟩ := At.z4 br.at0; have fr := br.free; have lr := br.lt; have HRY := hide br; clear br)
        refine hK.out _ _ (by (try dsimp only); (first | exact ⟨hS1, hS2⟩ | exact ⟨Step.of, fun b o h => ((fut X _).mono LE2.out).cell (p := ⟨b, o, none⟩) h⟩)) (fun hHeld => ?_)
        clear hK K
        (try simp only [Act.put, List.setIfInBounds_toArray, List.set_cons_zero, List.set_cons_succ])
        refine wpAnyH_take (i := 5) (oi := ⟨some 32, _, _, _, _, _⟩) (v := ?_) rfl (by kernel_rfl) (by kernel_rfl) (by kernel_rfl) (fun _ _ _ h => h) (Or.inl ⟨by rfl, ?_⟩) (by assumption) ?_
        rotate_left
        · ((intro w hSw); (try dsimp only at hSw); go_simp; (try with_reducible rfl))
        (try simp only [Act.put, List.setIfInBounds_toArray, List.set_cons_zero, List.set_cons_succ])
        refine wpAnyH_take (i := 6) (oi := ⟨some 33, _, _, _, _, _⟩) (v := ?_) rfl (by kernel_rfl) (by kernel_rfl) (by kernel_rfl) (fun _ _ _ h => h) (Or.inl ⟨by rfl, ?_⟩) (by assumption) ?_
        rotate_left
        · ((intro w hSw); (try dsimp only at hSw); go_simp; (try with_reducible rfl))
        (try simp only [Act.put, List.setIfInBounds_toArray, List.set_cons_zero, List.set_cons_succ])
        refine wpAnyH_ready (rs := [7]) (by kernel_rfl) (by simp) ?_
        refine AllReadyH.cons (o := ⟨none, _, _, _, _, _⟩) rfl (fun K hK => ?_) AllReadyH.nil
        go_simp
        refine hK.out _ _ (by (try dsimp only); (exact ⟨Step.of, fun b o h => ((((((fut X w5).mono LE2.out).setCell (p := ⟨w.heap.size + 1 + 1, 0, none⟩) (Nat.le_refl _) _).setCell (p := ⟨w.heap.size + 1 + 1, 1, none⟩) (Nat.le_refl _) _).setCell (p := ⟨w.heap.size + 1 + 1, 2, none⟩) (Nat.le_refl _) _).setCell (p := ⟨w.heap.size + 1 + 1, 3, none⟩) (Nat.le_refl _) _).cell (p := ⟨b, o, none⟩) h⟩)) (fun hHeld => ?_)
        clear hK K
        (try simp only [Act.put, List.setIfInBounds_toArray, List.set_cons_zero, List.set_cons_succ])
        refine wpAnyH_take (i := 8) (oi := ⟨some 5, _, _, _, _, _⟩) (v := ?_) rfl (by kernel_rfl) (by kernel_rfl) (by kernel_rfl) (fun _ _ _ h => h) (Or.inl ⟨by rfl, ?_⟩) (by assumption) ?_
        rotate_left
        · ((intro w hSw); (try dsimp only at hSw); go_simp; (try with_reducible rfl))
        (try simp only [Act.put, List.setIfInBounds_toArray, List.set_cons_zero, List.set_cons_succ])
        refine wpAnyH_done (by kernel_rfl) ?_ _
        go_wp2_with fail
        have HD := hide ((((HRY.out.set_ 0 (.int .i64 1)).set_ 1 (.int .i64 q)).set_ 2 (.bool false)).set_ 3 (.string ⟨#[]⟩))
        obtain ⟨t0, t1, t2, t3⟩ := At.z4 HD.out.at0
        refine bodyPost_ret (v := .tuple #[.agg #[.int .i64 1, .int .i64 q, .bool false, .string ⟨#[]⟩], .int .i64 0]) (by simp [results, Tryd.results61, go_sem, t0, t1, t2, t3]) rfl ⟨by rw [hE.out]; rfl, Step.of⟩
      · have h1b : (f.trans == 1) = false := by simpa using h1
        by_cases hk1 : kindV v = 1
        · have hkb : (kindV v == 1) = true := by rw [hk1]; rfl
          have hE : Hid (T = (⟨1, floorT (clean v).i f.param, false, .empty⟩, 0)) := by show _ = _; rw [← HT.out]; exact applyR_int HP.out HN.out h1 hk1
          have HM := hide (tmod_cases (clean v).i f.param hb1)
          have HE2 : Hid (0 ≤ (clean v).i % f.param ∧ (clean v).i % f.param < f.param) := ⟨Int.emod_nonneg _ (by omega), Int.emod_lt_of_pos _ (by omega)⟩
          clear h1 hsame hz0 hk1
          obtain ⟨r, hr⟩ : ∃ r, (clean v).i % f.param = r := ⟨_, rfl⟩
          have hfl : floorT (clean v).i f.param = if (clean v).i < -9223372036854775808 + r then -9223372036854775808 else (clean v).i - r := by rw [floorT, hr]
          rw [hr] at HM HE2
          rw [hfl] at hE
          obtain ⟨hr0, hr1⟩ := HE2.out
          clear hr hfl HE2
          rcases HM.out with ⟨hm1, hm2⟩ | ⟨hm1, hm2⟩
          · have hm : (clean v).i.tmod f.param = r := hm1
            have hneg : decide (r < 0) = false := by simp; omega
            clear HM hm1 hm2
            by_cases hc : (clean v).i < -9223372036854775808 + r
            · have HD := hide ((((HRX.out.set_ 0 (.int .i64 1)).set_ 1 (.int .i64 (-9223372036854775808))).set_ 2 (.bool false)).set_ 3 (.string ⟨#[]⟩))
              obtain ⟨t0, t1, t2, t3⟩ := At.z4 HD.out.at0
              rw [if_pos hc] at hE
              go_wp2_with fail
              refine bodyPost_ret (v := .tuple #[.agg #[.int .i64 1, .int .i64 (-9223372036854775808), .bool false, .string ⟨#[]⟩], .int .i64 0]) (by simp [results, Tryd.results61, go_sem, t0, t1, t2, t3]) rfl ⟨by rw [hE.out]; rfl, Step.of⟩
            · have HD := hide ((((HRX.out.set_ 0 (.int .i64 1)).set_ 1 (.int .i64 ((clean v).i - r))).set_ 2 (.bool false)).set_ 3 (.string ⟨#[]⟩))
              obtain ⟨t0, t1, t2, t3⟩ := At.z4 HD.out.at0
              rw [if_neg hc] at hE
              go_wp2_with fail
              refine bodyPost_ret (v := .tuple #[.agg #[.int .i64 1, .int .i64 ((clean v).i - r), .bool false, .string ⟨#[]⟩], .int .i64 0]) (by simp [results, Tryd.results61, go_sem, t0, t1, t2, t3]) rfl ⟨by rw [hE.out]; rfl, Step.of⟩
          · have hm : (clean v).i.tmod f.param = r - f.param := hm1
            have hneg : decide (r - f.param < 0) = true := by simp; omega
            clear HM hm1 hm2
            by_cases hc : (clean v).i < -9223372036854775808 + r
            · have HD := hide ((((HRX.out.set_ 0 (.int .i64 1)).set_ 1 (.int .i64 (-9223372036854775808))).set_ 2 (.bool false)).set_ 3 (.string ⟨#[]⟩))
              obtain ⟨t0, t1, t2, t3⟩ := At.z4 HD.out.at0
              rw [if_pos hc] at hE
              go_wp2_with fail
              refine bodyPost_ret (v := .tuple #[.agg #[.int .i64 1, .int .i64 (-9223372036854775808), .bool false, .string ⟨#[]⟩], .int .i64 0]) (by simp [results, Tryd.results61, go_sem, t0, t1, t2, t3]) rfl ⟨by rw [hE.out]; rfl, Step.of⟩
            · have HD := hide ((((HRX.out.set_ 0 (.int .i64 1)).set_ 1 (.int .i64 ((clean v).i - r))).set_ 2 (.bool false)).set_ 3 (.string ⟨#[]⟩))
              obtain ⟨t0, t1, t2, t3⟩ := At.z4 HD.out.at0
              rw [if_neg hc] at hE
              go_wp2_with fail
              refine bodyPost_ret (v := .tuple #[.agg #[.int .i64 1, .int .i64 ((clean v).i - r), .bool false, .string ⟨#[]⟩], .int .i64 0]) (by simp [results, Tryd.results61, go_sem, t0, t1, t2, t3]) rfl ⟨by rw [hE.out]; rfl, Step.of⟩
        · have hkb : (kindV v == 1) = false := by simpa using hk1
          by_cases hk3 : kindV v = 3
          · have hkc : (kindV v == 3) = true := by rw [hk3]; rfl
            have hE : Hid (T = (⟨3, 0, false, firstT (clean v).s f.param⟩, 0)) := by show _ = _; rw [← HT.out]; exact applyR_text HP.out HN.out h1 hk3
            have CO := hide (fun w' => rrunes_any (clean v).s f.param w' hb1 hb2 hcs)
            generalize firstT (clean v).s f.param = q at CO hE
            clear h1 hsame hz0 hk1 hk3
            go_wp2_with (go_at_call 93; (with_reducible refine (CO.out _).mono ?_); rintro e w5 ⟨rfl, hs5⟩; have br := HRX.out.fut (w' := w5); clear r0 r1 r2 r3 fr lr; obtain ⟨r0, r1, r2, r3⟩ := At.z4 br.at0; have fr := br.free; have lr := br.lt; have HRY := hide br; clear br)
            have HD := hide ((((HRY.out.set_ 0 (.int .i64 3)).set_ 1 (.int .i64 0)).set_ 2 (.bool false)).set_ 3 (.string q))
            obtain ⟨t0, t1, t2, t3⟩ := At.z4 HD.out.at0
            refine bodyPost_ret (v := .tuple #[.agg #[.int .i64 3, .int .i64 0, .bool false, .string q], .int .i64 0]) (by simp [results, Tryd.results61, go_sem, t0, t1, t2, t3]) rfl ⟨by rw [hE.out]; rfl, Step.of⟩
          · have hkc : (kindV v == 3) = false := by simpa using hk3
            have hE : Hid (T = (Val.zero, 1300)) := by show _ = _; rw [← HT.out]; exact applyR_bool HP.out HN.out h1 (by omega)
            have HD := hide ((((HRX.out.set_ 0 (.int .i64 0)).set_ 1 (.int .i64 0)).set_ 2 (.bool false)).set_ 3 (.string ⟨#[]⟩))
            obtain ⟨t0, t1, t2, t3⟩ := At.z4 HD.out.at0
            clear h1 hsame hz0 hk1 hk3
            go_wp2_with fail
            refine bodyPost_ret (v := .tuple #[.agg #[.int .i64 0, .int .i64 0, .bool false, .string ⟨#[]⟩], .int .i64 1300]) (by simp [results, Tryd.results61, go_sem, t0, t1, t2, t3]) rfl ⟨by rw [hE.out]; rfl, Step.of⟩
end Go.Proofs.YtafgfehjdbomfaaDoor
namespace Go.Proofs.YtafgfehjdbomfaaDoor
open Go.RowKit

def FineV (v : Val) : Prop := v.s.size ≤ 9223372036854775000 ∧ -9223372036854775808 ≤ v.i ∧ v.i ≤ 9223372036854775807
def partT (s : Sch) (fs : List Fld) (vs : List Val) : List Val := fs.map fun f => (applyR f (vs.getD (s.cols.findIdx (colId f.source)) Val.zero)).1
theorem partT_len (s : Sch) (fs : List Fld) (vs : List Val) : (partT s fs vs).length = fs.length := by simp [partT]
theorem partT_succ {s : Sch} {fs : List Fld} {vs : List Val} {k j : Nat} {f : Fld} {v : Val} (h : fs[k]? = some f) (hj : s.cols.findIdx (colId f.source) = j) (hv : vs[j]? = some v) : partT s (fs.take (k + 1)) vs = partT s (fs.take k) vs ++ [(applyR f v).1] := by
  unfold partT
  rw [List.take_add_one, h]
  simp [hj, List.getD_eq_getElem?_getD, hv]
/-- A field of a spec that may be has a column. -/
theorem spec_col {id : Int} {fs : List Fld} {s : Sch} {k : Nat} {f : Fld} (h : specB id fs s = true) (hf : fs[k]? = some f) : ∃ j : Nat, idx (colId f.source) s.cols = (j : Int) ∧ j < s.cols.length ∧ s.cols.findIdx (colId f.source) = j := by
  have hk := (List.getElem?_eq_some_iff.1 hf).1
  unfold specB at h
  simp only [Bool.and_eq_true, decide_eq_true_eq] at h
  have := fldsUpto_iff.1 h.2.2.2.2 k hk f hf
  unfold fldB at this
  simp only [Bool.and_eq_true, decide_eq_true_eq] at this
  obtain ⟨e, hl⟩ := idx_yes this.1
  exact ⟨_, e, hl, rfl⟩
theorem spec_param {id : Int} {fs : List Fld} {s : Sch} {k : Nat} {f : Fld} (h : specB id fs s = true) (hf : fs[k]? = some f) : paramB f = true := by
  have hk := (List.getElem?_eq_some_iff.1 hf).1
  unfold specB at h
  simp only [Bool.and_eq_true, decide_eq_true_eq] at h
  have := fldsUpto_iff.1 h.2.2.2.2 k hk f hf
  unfold fldB at this
  simp only [Bool.and_eq_true] at this
  exact this.2.1
theorem rowB_width {s : Sch} {vs : List Val} (h : rowB s vs = true) : vs.length = s.cols.length := by
  rcases Nat.decEq vs.length s.cols.length with e | e
  · rw [rowB_len e] at h; cases h
  · exact e
def partR (id : Int) (fs : List Fld) (s : Sch) (vs : List Val) : List Val × Int := if specB id fs s = true ∧ rowB s vs = true then (partT s fs vs, 0) else ([], 1300)
end Go.Proofs.YtafgfehjdbomfaaDoor
namespace Go.Proofs.YtafgfehjdbomfaaDoor
open Go.RowKit

def preF (fs : List Fld) (f : Fld) (m : Nat) : Bool := (fs.take m).any (sameF f)
theorem rbyId_any {w0 : World} (s : Sch) (A : Option Addr) (cap : Nat) (id : Int) (w : World) (h : SchIn w0 s A cap) [hf : Fut w0 w] :
    Calls Tryd.prog 62 #[s.val A cap, .int .i64 id] w fun e w' => e = .returned (.int .i64 (idx (colId id) s.cols)) ∧ Step w w' := by
  have hat := h.at_
  have hl := h.len
  obtain ⟨sid, cols, nx⟩ := s
  simp only [Sch.val] at hat hl ⊢
  have hB := hf.below.size
  go_enter Tryd.func62, Tryd.ntmps62
  go_wp2
  go_loop [5] (fun i => ∃ k : Nat, k ≤ cols.length ∧ i = .int .i64 k ∧ k ≤ cols.findIdx (colId id)) (fun i => cols.length - (intOf i).toNat)
  case atStart => exact ⟨0, Nat.zero_le _, rfl, Nat.zero_le _⟩
  case round =>
    obtain ⟨k, hk, rfl, hfi⟩ := hrel
    by_cases hlt : k < cols.length
    · obtain ⟨b, off, rfl, hb, hc⟩ := hat.elem hf (k := k) (by simpa using hlt)
      obtain ⟨h1, h2, h3⟩ := At.l3 (hc k cols[k].cells (by simp [hlt]))
      have hb' : b < w.heap.size := by omega
      clear hc
      cases hp : colId id cols[k] with
      | true =>
        have Hp := Lib.hid hp
        have e : cols.findIdx (colId id) = k := fi_hit (colId id) cols k hlt hfi Hp.out
        have E := hide e; clear e
        have hp' : (cols[k].id == id) = true := hp
        clear hp
        go_wp2
        go_ret
        exact ⟨ret_int (by simp [idx, E.out, hlt]), Step.of⟩
      | false =>
        have Hp := Lib.hid hp
        have hp' : (cols[k].id == id) = false := hp
        clear hp
        go_wp2
        go_round
        case rel => exact ⟨k + 1, by omega, by go_num, fi_miss (colId id) cols k hlt hfi Hp.out⟩
        case measure => simp [intOf]; omega
    · go_wp2_with fail
      go_ret
      exact ⟨ret_int (by rw [idx, if_neg (by omega)]), Step.of⟩

theorem rfieldMay_any (f : Fld) (w : World) : Calls Tryd.prog 90 #[.agg #[.int .i64 f.source, .int .i64 f.trans, .int .i64 f.param]] w fun e w' => e = .returned (.bool (paramB f)) ∧ Step w w' := by
  obtain ⟨so, t, p⟩ := f
  simp only []
  by_cases h0 : t = 0
  · subst h0
    go_enter Tryd.func90, Tryd.ntmps90
    go_wp2_with fail
    go_ret
    exact ⟨rfl, Step.of⟩
  · by_cases h12 : t = 1 ∨ t = 2
    · have HP : Hid (paramB ⟨so, t, p⟩ = (decide (1 ≤ p) && decide (p ≤ 1024))) := by show _ = _; simp only [paramB]; rw [if_neg h0, if_pos h12]
      rw [HP.out]
      clear HP
      by_cases h1 : 1 ≤ p
      · rcases h12 with rfl | rfl
        all_goals
          clear h0
          go_enter Tryd.func90, Tryd.ntmps90
          go_wp2_with fail
          go_ret
          exact ⟨ret_bool (by simp [h1]), Step.of⟩
      · rcases h12 with rfl | rfl
        all_goals
          clear h0
          go_enter Tryd.func90, Tryd.ntmps90
          go_wp2_with fail
          go_ret
          exact ⟨ret_bool (by simp; omega), Step.of⟩
    · have HP : Hid (paramB ⟨so, t, p⟩ = false) := by show _ = _; simp only [paramB]; rw [if_neg h0, if_neg h12]
      rw [HP.out]
      clear HP
      have e0 : (t == 0) = false := by simpa using h0
      have e1 : (t == 1) = false := by simp; omega
      have e2 : (t == 2) = false := by simp; omega
      clear h0 h12
      go_enter Tryd.func90, Tryd.ntmps90
      go_wp2_with fail
      go_ret
      exact ⟨rfl, Step.of⟩

set_option maxRecDepth 100000 in
set_option maxHeartbeats 8000000 in
theorem rspec_any {w0 w1 : World} (id : Int) (fs : List Fld) (Af : Option Addr) (cf : Nat) (s : Sch) (As : Option Addr) (cs : Nat) (w : World) (hfs : FsIn w0 fs Af cf) (hs : SchIn w1 s As cs) [f0 : Fut w0 w] [f1 : Fut w1 w] :
    Calls Tryd.prog 59 #[.agg #[.int .i64 id, .slice Af fs.length cf], s.val As cs] w fun e w' => e = .returned (.bool (specB id fs s)) ∧ Step w w' := by
  have z0 := f0.below.size; have z1 := f1.below.size
  have hcap := hfs.hcap; have hcapm := hfs.hcapm; have hlf := hfs.len; have hls := hs.len
  have pm := fun w' [Fut w1 w'] => rmay_any s As cs w' hs
  unfold Sch.val at pm ⊢
  obtain ⟨W, hW⟩ : ∃ W, W = (w.alloc (.cells #[.int .i64 id, .slice Af fs.length cf] 65)).alloc (.cells #[.int .i64 s.id, .slice As s.cols.length cs, .int .i64 s.next] 27) := ⟨_, rfl⟩
  have SW : Step w W := by rw [hW]; exact Step.of
  have HSP : Hid (Blk W w.heap.size 65 [.int .i64 id, .slice Af fs.length cf]) := by rw [hW]; exact (Blk.new w [.int .i64 id, .slice Af fs.length cf] 65).alloc _
  have HSB : Hid (Blk W (w.heap.size + 1) 27 [.int .i64 s.id, .slice As s.cols.length cs, .int .i64 s.next]) := by rw [hW]; exact Blk.new_at (by simp) [.int .i64 s.id, .slice As s.cols.length cs, .int .i64 s.next] 27
  have HW := hide hW
  clear hW
  obtain ⟨R, hR⟩ : ∃ R, specB id fs s = R := ⟨_, rfl⟩
  have HR := hide hR
  rw [hR]
  clear hR
  cases hm : mayB s with
  | false =>
    have HE : Hid (specB id fs s = false) := by show _ = _; exact specB_no (.inl hm)
    rw [hm] at pm
    have PM := hide pm
    clear pm hm
    go_enter Tryd.func59, Tryd.ntmps59
    go_wp2_with (refine (PM.out _).mono ?_; rintro e w3 ⟨rfl, hs3⟩)
    go_ret
    exact ⟨by rw [← HR.out, HE.out]; rfl, Step.of⟩
  | true =>
    rw [hm] at pm
    have PM := hide pm
    have HM := hide hm
    clear pm hm
    by_cases h0 : id < 0
    · have HE : Hid (specB id fs s = false) := by show _ = _; exact specB_no (.inr (.inl h0))
      go_enter Tryd.func59, Tryd.ntmps59
      go_wp2_with (refine (PM.out _).mono ?_; rintro e w3 ⟨rfl, hs3⟩; rw [← HW.out] at hs3; obtain ⟨p0, p1⟩ := At.z2 (HSP.out.fut (w' := w3)).at0; have lp := (HSP.out.fut (w' := w3)).lt)
      go_ret
      exact ⟨by rw [← HR.out, HE.out]; rfl, Step.of⟩
    · by_cases h1 : 2147483647 < id
      · have HE : Hid (specB id fs s = false) := by show _ = _; exact specB_no (.inr (.inr (.inl h1)))
        go_enter Tryd.func59, Tryd.ntmps59
        go_wp2_with (refine (PM.out _).mono ?_; rintro e w3 ⟨rfl, hs3⟩; rw [← HW.out] at hs3; obtain ⟨p0, p1⟩ := At.z2 (HSP.out.fut (w' := w3)).at0; have lp := (HSP.out.fut (w' := w3)).lt)
        go_ret
        exact ⟨by rw [← HR.out, HE.out]; rfl, Step.of⟩
      · by_cases h4 : 4 < fs.length
        · have HE : Hid (specB id fs s = false) := by show _ = _; exact specB_no (.inr (.inr (.inr h4)))
          have h4' : (4 : Int) < (fs.length : Int) := by omega
          go_enter Tryd.func59, Tryd.ntmps59
          go_wp2_with (refine (PM.out _).mono ?_; rintro e w3 ⟨rfl, hs3⟩; rw [← HW.out] at hs3; obtain ⟨p0, p1⟩ := At.z2 (HSP.out.fut (w' := w3)).at0; have lp := (HSP.out.fut (w' := w3)).lt)
          go_ret
          exact ⟨by rw [← HR.out, HE.out]; rfl, Step.of⟩
        · have HE : Hid (specB id fs s = fldsUpto s fs fs.length) := by show _ = _; exact specB_yes HM.out (by omega) (by omega) (by omega)
          have h4' : ¬ (4 : Int) < (fs.length : Int) := by omega
          go_enter Tryd.func59, Tryd.ntmps59
          go_wp2_with (refine (PM.out _).mono ?_; rintro e w3 ⟨rfl, hs3⟩; rw [← HW.out] at hs3; obtain ⟨p0, p1⟩ := At.z2 (HSP.out.fut (w' := w3)).at0; have lp := (HSP.out.fut (w' := w3)).lt)
          clear p0 p1 lp h0 h1 h4'
          go_loopw [5, 6, 7, 8] (fun i _ _ _ wr => ∃ k : Nat, k ≤ fs.length ∧ i = .int .i64 k ∧ fldsUpto s fs k = true ∧ Step W wr) (fun i _ _ _ _ => fs.length - (intOf i).toNat)
          case atStart => exact ⟨0, Nat.zero_le _, rfl, rfl, Step.of⟩
          case round =>
            obtain ⟨k, hk, rfl, hok, hst⟩ := hrel
            have HO := hide hok; clear hok
            obtain ⟨wo, rfl⟩ : ∃ x : World, x = wr := ⟨_, rfl⟩
            have hzo := hst.size
            have hzW := SW.size
            obtain ⟨p0, p1⟩ := At.z2 (HSP.out.fut (w' := wo)).at0; have lp := (HSP.out.fut (w' := wo)).lt
            by_cases hlt : k < fs.length
            · obtain ⟨q0, q1, q2⟩ := At.z3 (HSB.out.fut (w' := wo)).at0; have lq := (HSB.out.fut (w' := wo)).lt
              obtain ⟨b, off, rfl, hb, hc⟩ := hfs.at_.elem (w' := wo) inferInstance (k := k) (by simpa using hlt)
              obtain ⟨f, hfk⟩ : ∃ f, fs[k]? = some f := ⟨_, List.getElem?_eq_getElem hlt⟩
              obtain ⟨e0, e1, e2⟩ := At.l3 (hc k f.cells (by simp [hfk]))
              have hlb : b < wo.heap.size := by omega
              have HF := hide hfk
              clear hfk hc
              have HAF := hide (Blk.new wo [.int .i64 f.source, .int .i64 f.trans, .int .i64 f.param] 98)
              have FD := rbyId_any s As cs f.source (wo.alloc (.cells #[.int .i64 f.source, .int .i64 f.trans, .int .i64 f.param] 98)) hs
              unfold Sch.val at FD
              have FD := hide FD
              have hkl : (k : Int) < (fs.length : Int) := by omega
              have hkl0 : (0 : Int) ≤ (k : Int) := by omega
              go_upto_region 8 with (go_at_call 62; refine FD.out.mono ?_; rintro e w3 ⟨rfl, hs3⟩)
              clear e0 e1 e2 hlb FD p0 p1 lp q0 q1 q2 lq
              have hz3 := hs3.size
              obtain ⟨a0, a1, a2⟩ := At.z3 (HAF.out.fut (w' := w3)).at0; have la := (HAF.out.fut (w' := w3)).lt
              obtain ⟨p0, p1⟩ := At.z2 (HSP.out.fut (w' := w3)).at0; have lp := (HSP.out.fut (w' := w3)).lt
              obtain ⟨q0, q1, q2⟩ := At.z3 (HSB.out.fut (w' := w3)).at0; have lq := (HSB.out.fut (w' := w3)).lt
              have FM := hide (fun w' => rfieldMay_any f w')
              rcases idx_cases (colId f.source) s.cols with hi | ⟨j, hi, hj⟩
              · have HB := hide (fldsUpto_bad HF.out (fld_none (s := s) (fs := fs) (k := k) hi))
                rw [hi]
                clear hi
                go_wp2_with fail
                go_ret
                exact ⟨by rw [← HR.out, HE.out, HB.out]; rfl, Step.of⟩
              · obtain ⟨bc, oc, rfl, hbc, hcc⟩ := hs.at_.elem (w' := w3) inferInstance (k := j) (by simpa using hj)
                obtain ⟨c, hcj⟩ : ∃ c, s.cols[j]? = some c := ⟨_, List.getElem?_eq_getElem hj⟩
                have HCA := hide (hcc j c.cells (by simp [hcj]))
                obtain ⟨c0, c1, c2⟩ := At.l3 HCA.out
                have hlc : bc < w3.heap.size := by omega
                have HI := hide hi; have HCJ := hide hcj
                rw [hi]
                clear hi hcj hcc
                have hj0 : ¬ (j : Int) < 0 := by omega
                have hj0' : (0 : Int) ≤ (j : Int) := by omega
                have hj1 : (j : Int) < (s.cols.length : Int) := by omega
                cases hpb : paramB f with
                | false =>
                  have HB := hide (fldsUpto_bad HF.out (fld_param (s := s) (fs := fs) (k := k) hpb))
                  rw [hpb] at FM
                  clear hpb
                  go_wp2_with (go_at_call 90; refine (FM.out _).mono ?_; rintro e w4 ⟨rfl, hs4⟩)
                  go_ret
                  exact ⟨by rw [← HR.out, HE.out, HB.out]; rfl, Step.of⟩
                | true =>
                  rw [hpb] at FM
                  have HPB := hide hpb
                  clear hpb
                  by_cases hbb : f.trans = 2 ∧ c.kind = 2
                  · have HB := hide (fldsUpto_bad HF.out (fld_bool (s := s) (fs := fs) (k := k) HI.out HCJ.out hbb.1 hbb.2))
                    obtain ⟨t2, k2⟩ := hbb
                    have t2' : (f.trans == 2) = true := by simpa using t2
                    have k2' : (c.kind == 2) = true := by simpa using k2
                    clear t2 k2
                    go_wp2_with ((go_at_call 90; refine (FM.out _).mono ?_; rintro e w4 ⟨rfl, hs4⟩; clear a0 a1 a2 la p0 p1 lp q0 q1 q2 lq c0 c1 c2; (obtain ⟨a0, a1, a2⟩ := At.z3 (HAF.out.fut (w' := w4)).at0); have la := (HAF.out.fut (w' := w4)).lt; (obtain ⟨p0, p1⟩ := At.z2 (HSP.out.fut (w' := w4)).at0); have lp := (HSP.out.fut (w' := w4)).lt; (obtain ⟨q0, q1, q2⟩ := At.z3 (HSB.out.fut (w' := w4)).at0); have lq := (HSB.out.fut (w' := w4)).lt; (obtain ⟨c0, c1, c2⟩ := At.l3 (HCA.out.below (fut w3 w4) (by omega))); have hz4_ := hs4.size; have hlc4 : bc < w4.heap.size := by omega))
                    go_ret
                    exact ⟨by rw [← HR.out, HE.out, HB.out]; rfl, Step.of⟩
                  · have HFB := hide (fld_else (s := s) (fs := fs) (k := k) HI.out HCJ.out HPB.out hbb)
                    have hbb' : (f.trans == 2) = false ∨ (f.trans == 2) = true ∧ (c.kind == 2) = false := by
                      by_cases h1 : f.trans = 2
                      · exact .inr ⟨by simpa using h1, by simp; exact fun h => hbb ⟨h1, h⟩⟩
                      · exact .inl (by simpa using h1)
                    clear hbb
                    rcases hbb' with t2 | ⟨t2, k2⟩
                    all_goals
                      go_wp2_with ((go_at_call 90; refine (FM.out _).mono ?_; rintro e w4 ⟨rfl, hs4⟩; clear a0 a1 a2 la p0 p1 lp q0 q1 q2 lq c0 c1 c2; (obtain ⟨a0, a1, a2⟩ := At.z3 (HAF.out.fut (w' := w4)).at0); have la := (HAF.out.fut (w' := w4)).lt; (obtain ⟨p0, p1⟩ := At.z2 (HSP.out.fut (w' := w4)).at0); have lp := (HSP.out.fut (w' := w4)).lt; (obtain ⟨q0, q1, q2⟩ := At.z3 (HSB.out.fut (w' := w4)).at0); have lq := (HSB.out.fut (w' := w4)).lt; (obtain ⟨c0, c1, c2⟩ := At.l3 (HCA.out.below (fut w3 w4) (by omega))); have hz4_ := hs4.size; have hlc4 : bc < w4.heap.size := by omega))
                      clear c0 c1 c2 hlc hlc4 a0 a1 a2 la p0 p1 lp q0 q1 q2 lq
                      go_loopw [8] (fun jj wr => ∃ m : Nat, m ≤ k ∧ jj = .int .i64 m ∧ Hid (preF fs f m = false) ∧ Step w4 wr) (fun jj _ => k - (intOf jj).toNat)
                      case atStart => exact ⟨0, Nat.zero_le _, rfl, (by show _ = _; rfl), Step.of⟩
                      case round =>
                        obtain ⟨m, hm, rfl, HM, hst4⟩ := hrel
                        obtain ⟨w5, rfl⟩ : ∃ x : World, x = wr := ⟨_, rfl⟩
                        have hz5 := hst4.size
                        obtain ⟨a0, a1, a2⟩ := At.z3 (HAF.out.fut (w' := w5)).at0; have la := (HAF.out.fut (w' := w5)).lt
                        obtain ⟨p0, p1⟩ := At.z2 (HSP.out.fut (w' := w5)).at0; have lp := (HSP.out.fut (w' := w5)).lt
                        obtain ⟨q0, q1, q2⟩ := At.z3 (HSB.out.fut (w' := w5)).at0; have lq := (HSB.out.fut (w' := w5)).lt
                        by_cases hmk : m < k
                        · obtain ⟨b2, off2, hA2, hb2, hc2⟩ := hfs.at_.elem (w' := w5) inferInstance (k := m) (by simp; omega)
                          obtain ⟨rfl, rfl⟩ : b = b2 ∧ off = off2 := by simpa using hA2
                          obtain ⟨o, hom⟩ : ∃ o, fs[m]? = some o := ⟨_, List.getElem?_eq_getElem (by omega)⟩
                          obtain ⟨e0, e1, e2⟩ := At.l3 (hc2 m o.cells (by simp [hom]))
                          have hlb : b < w5.heap.size := by omega
                          have hm0 : (0 : Int) ≤ (m : Int) := by omega
                          have hm1 : (m : Int) < (fs.length : Int) := by omega
                          have hmk' : (m : Int) < (k : Int) := by omega
                          have HOM := hide hom
                          have HSO : Hid (sameF f o = (o.source == f.source && o.trans == f.trans)) := hide rfl
                          clear hc2 hom hA2
                          have HYES : Hid (sameF f o = true → fldsUpto s fs fs.length = false) := fun h => fldsUpto_bad HF.out (HFB.out.trans (by
                            have : (fs.take k).any (sameF f) = true := List.any_eq_true.2 ⟨o, List.mem_iff_getElem?.2 ⟨m, by rw [List.getElem?_take, if_pos hmk]; exact HOM.out⟩, h⟩
                            rw [this]; rfl))
                          have HNO : Hid (sameF f o = false → preF fs f (m + 1) = false) := fun h => by
                            rw [preF, List.take_add_one, HOM.out, List.any_append, show (fs.take m).any (sameF f) = false from HM.out, Bool.false_or]
                            simpa using h
                          cases g1 : (o.source == f.source)
                          · have HN2 := hide (HNO.out (by rw [HSO.out, g1]; rfl))
                            go_upto_region 13 with (fail)
                            go_quiet (fail)
                            go_wp2_with fail
                            go_roundw
                            case rel => exact ⟨m + 1, by omega, by go_num, HN2, Step.of⟩
                            case measure => simp [intOf]; omega
                          · cases g2 : (o.trans == f.trans)
                            · have HN2 := hide (HNO.out (by rw [HSO.out, g1, g2]; rfl))
                              go_upto_region 13 with (fail)
                              go_quiet (fail)
                              go_wp2_with fail
                              go_roundw
                              case rel => exact ⟨m + 1, by omega, by go_num, HN2, Step.of⟩
                              case measure => simp [intOf]; omega
                            · have HY := hide (HYES.out (by rw [HSO.out, g1, g2]; rfl))
                              go_upto_region 13 with (fail)
                              go_quiet (fail)
                              go_wp2_with fail
                              go_ret
                              exact ⟨by rw [← HR.out, HE.out, HY.out]; rfl, Step.of⟩
                        · obtain rfl : m = k := by omega
                          have HB := hide (fldsUpto_succ HO.out HF.out (HFB.out.trans (by rw [show (fs.take m).any (sameF f) = false from HM.out]; rfl)))
                          go_wp2_with fail
                          go_roundw
                          case rel => exact ⟨m + 1, by omega, by go_num, HB.out, Step.of⟩
                          case measure => simp [intOf]; omega
            · obtain rfl : k = fs.length := by omega
              go_wp2_with fail
              go_ret
              exact ⟨by rw [← HR.out, HE.out, HO.out]; rfl, Step.of⟩
end Go.Proofs.YtafgfehjdbomfaaDoor
namespace Go.Proofs.YtafgfehjdbomfaaDoor
open Go.RowKit

set_option maxRecDepth 100000 in
set_option maxHeartbeats 16000000 in
theorem rPart_any {w1 w2 w3 : World} (id : Int) (fs : List Fld) (Af : Option Addr) (cf : Nat) (s : Sch) (As : Option Addr) (cs : Nat) (vs : List Val) (Av : Option Addr) (cv : Nat) (w : World)
    (hf : FsIn w1 fs Af cf) (hs : SchIn w2 s As cs) (hv : SlAt w3 w3.heap.size 4 Av (vs.map Val.cells)) [f1 : Fut w1 w] [f2 : Fut w2 w] [f3 : Fut w3 w] (hfine : ∀ v ∈ vs, FineV v) (hvl : vs.length ≤ 4611686018427387904) :
    Calls Tryd.prog 31 #[.agg #[.int .i64 id, .slice Af fs.length cf], .agg #[.int .i64 s.id, .slice As s.cols.length cs, .int .i64 s.next], .agg #[.slice Av vs.length cv]] w fun e w' => ∃ (A' : Option Addr) (c' : Nat), e = .returned (.tuple #[.slice A' (partR id fs s vs).1.length c', .int .i64 (partR id fs s vs).2]) ∧ Own w' w.heap.size 57 4 (.slice A' (partR id fs s vs).1.length c') ((partR id fs s vs).1.map Val.cells) ∧ Step w w' := by
  have z1 := f1.below.size; have z2 := f2.below.size; have z3 := f3.below.size
  obtain ⟨T, hT⟩ : ∃ T, partR id fs s vs = T := ⟨_, rfl⟩
  have HT := hide hT
  rw [hT]
  clear hT
  obtain ⟨W, hW⟩ : ∃ W, W = ((w.alloc (.cells #[.int .i64 id, .slice Af fs.length cf] 65)).alloc (.cells #[.int .i64 s.id, .slice As s.cols.length cs, .int .i64 s.next] 27)).alloc (.cells #[.slice Av vs.length cv] 54) := ⟨_, rfl⟩
  have SW : Step w W := by rw [hW]; exact Step.of
  have HPB : Hid (Blk W w.heap.size 65 [.int .i64 id, .slice Af fs.length cf]) := by rw [hW]; exact ((Blk.new w [.int .i64 id, .slice Af fs.length cf] 65).alloc _).alloc _
  have HSB : Hid (Blk W (w.heap.size + 1) 27 [.int .i64 s.id, .slice As s.cols.length cs, .int .i64 s.next]) := by rw [hW]; exact (Blk.new_at (by simp) [.int .i64 s.id, .slice As s.cols.length cs, .int .i64 s.next] 27).alloc _
  have HRB : Hid (Blk W (w.heap.size + 1 + 1) 54 [.slice Av vs.length cv]) := by rw [hW]; exact Blk.new_at (by simp) [.slice Av vs.length cv] 54
  have HW := hide hW
  have hzW := SW.size
  clear hW
  have MS := hide (fun w' [Fut w1 w'] [Fut w2 w'] => rspec_any id fs Af cf s As cs w' hf hs)
  unfold Sch.val at MS
  have HFN := hide hfine
  clear hfine
  cases hsp : specB id fs s with
  | false =>
    have hE : Hid (T = ([], 1300)) := by show _ = _; rw [← HT.out, partR, if_neg (by rw [hsp]; simp)]
    rw [hsp] at MS
    clear hsp
    go_enter Tryd.func31, Tryd.ntmps31
    go_wp2_with (go_at_call 59; (with_reducible refine (MS.out _).mono ?_); rintro e w4 ⟨rfl, hs4⟩)
    go_ret2
    exact ⟨none, 0, by rw [hE.out]; rfl, by rw [hE.out]; exact Own.nil_ _ _ _ _, Step.of⟩
  | true =>
    have HSP := hide hsp
    have h12 : fs.length ≤ 4 := by
      have := hsp
      unfold specB at this
      simp only [Bool.and_eq_true, decide_eq_true_eq] at this
      exact this.2.2.2.1
    rw [hsp] at MS
    clear hsp
    have RW_ := hide (fun w' [Fut w2 w'] [Fut w3 w'] => rrow_any s As cs vs Av cv w' hs hv hvl)
    unfold Sch.val at RW_
    cases hrb : rowB s vs with
    | false =>
      have hE : Hid (T = ([], 1300)) := by show _ = _; rw [← HT.out, partR, if_neg (by rw [hrb]; simp)]
      rw [hrb] at RW_
      clear hrb
      go_enter Tryd.func31, Tryd.ntmps31
      go_wp2_with (first
        | (go_at_call 59; (with_reducible refine (MS.out _).mono ?_); rintro e w4 ⟨rfl, hs4⟩; rw [← HW.out] at hs4; have b_ := HRB.out.fut (w' := w4); have r0 := At.z1 b_.at0; have lr := b_.lt; clear b_; have b_ := HSB.out.fut (w' := w4); obtain ⟨q0, q1, q2⟩ := At.z3 b_.at0; have lq := b_.lt; clear b_)
        | (go_at_call 60; (with_reducible refine (RW_.out _).mono ?_); rintro e wR ⟨rfl, hsR⟩))
      go_ret2
      exact ⟨none, 0, by rw [hE.out]; rfl, by rw [hE.out]; exact Own.nil_ _ _ _ _, Step.of⟩
    | true =>
      have hE : Hid (T = (partT s fs vs, 0)) := by show _ = _; rw [← HT.out, partR, if_pos ⟨HSP.out, hrb⟩]
      have HVL := hide (rowB_width hrb)
      rw [hrb] at RW_
      clear hrb
      go_enter Tryd.func31, Tryd.ntmps31
      go_wp2_with (first
        | (go_at_call 59; (with_reducible refine (MS.out _).mono ?_); rintro e w4 ⟨rfl, hs4⟩; rw [← HW.out] at hs4; have b_ := HRB.out.fut (w' := w4); have r0 := At.z1 b_.at0; have lr := b_.lt; clear b_; have b_ := HSB.out.fut (w' := w4); obtain ⟨q0, q1, q2⟩ := At.z3 b_.at0; have lq := b_.lt; clear b_)
        | (go_at_call 60; (with_reducible refine (RW_.out _).mono ?_); rintro e wR ⟨rfl, hsR⟩; clear r0 lr q0 q1 q2 lq))
      go_loopw [8, 9, 10, 11] (fun out i _ _ wr => ∃ (k : Nat) (A' : Option Addr) (c' : Nat), k ≤ fs.length ∧ i = .int .i64 k ∧ out = .slice A' k c' ∧ Own wr W.heap.size 57 4 (.slice A' k c') ((partT s (fs.take k) vs).map Val.cells) ∧ Step W wr) (fun _ i _ _ _ => fs.length - (intOf i).toNat)
      case atStart => exact ⟨0, none, 0, Nat.zero_le _, rfl, rfl, Own.nil_ _ _ _ _, Step.of⟩
      case round =>
        obtain ⟨k, A', c', hk, rfl, rfl, hown, hst⟩ := hrel
        have HO := hide hown; clear hown
        obtain ⟨wo, rfl⟩ : ∃ x : World, x = wr := ⟨_, rfl⟩
        have hzo := hst.size
        have p_ := HPB.out.fut (w' := wo); obtain ⟨p0, p1⟩ := At.z2 p_.at0; have lp := p_.lt
        clear p_
        by_cases hlt : k < fs.length
        · obtain ⟨b, off, hA, hb, hc⟩ := hf.at_.elem (w' := wo) inferInstance (k := k) (by simpa using hlt)
          obtain ⟨f, hfk⟩ : ∃ f, fs[k]? = some f := ⟨_, List.getElem?_eq_getElem hlt⟩
          obtain ⟨c0, c1, c2⟩ := At.l3 (hc k f.cells (by simp [hfk]))
          have hlb : b < wo.heap.size := by omega
          have hkl : (k : Int) < (fs.length : Int) := by omega
          have hk0 : (0 : Int) ≤ (k : Int) := by omega
          obtain ⟨j, hij, hjl, hfj⟩ := spec_col HSP.out hfk
          obtain ⟨v, hvj⟩ : ∃ v, vs[j]? = some v := ⟨_, List.getElem?_eq_getElem (by rw [HVL.out]; exact hjl)⟩
          have HPS := hide (partT_succ hfk hfj hvj)
          have HFV := hide (HFN.out v (List.mem_of_getElem? hvj))
          have fd := fun w' [Fut w2 w'] => rbyId_any s As cs f.source w' hs
          unfold Sch.val at fd
          rw [hij] at fd
          have FD := hide fd
          obtain ⟨b4, o4, hA4, hb4, hc4⟩ := hv.elem (w' := wo) inferInstance (k := j) (by rw [List.length_map, HVL.out]; exact hjl)
          obtain ⟨v0, v1, v2, v3⟩ := At.l4 (hc4 j v.cells (by simp [hvj]))
          have hl4 : b4 < wo.heap.size := by omega
          have hj0 : (0 : Int) ≤ (j : Int) := by omega
          have hj1 : (j : Int) < (vs.length : Int) := by rw [HVL.out]; omega
          have ap := fun w' => rapply_any f v w' HFV.out.1 HFV.out.2.1 HFV.out.2.2
          generalize applyR f v = T at ap HPS
          obtain ⟨⟨rk, ri, rb, rs⟩, re⟩ := T
          unfold Val.val at ap
          simp only at ap HPS
          have AP := hide ap
          have HLN : Hid (((partT s (fs.take k) vs).map Val.cells).length = k) := by show _ = _; rw [List.length_map, partT_len]; simp; omega
          have q_ := HSB.out.fut (w' := wo); obtain ⟨q0, q1, q2⟩ := At.z3 q_.at0; have lq := q_.lt
          have r_ := HRB.out.fut (w' := wo); have r0 := At.z1 r_.at0; have lr := r_.lt
          rw [hA] at p1
          rw [hA4] at r0
          clear fd ap hij hfj hvj hc hc4 hfk hA hA4 q_ r_
          go_upto_region 7 with (fail)
          go_cut [10, 11] from 29 to 49 (fun g _ wx => ∃ g10 : Nat, g = .pointer (some ⟨g10, 0, none⟩) ∧ Blk wx g10 57 [.int .i64 rk, .int .i64 ri, .bool rb, .string rs] ∧ Step wo wx)
          case first =>
            refine wp_region_held_drew (S := (fun w' => Step wo w' ∧ (∀ b o, b < wo.heap.size → w'.cell? ⟨b, o, none⟩ = wo.cell? ⟨b, o, none⟩))) (by kernel_rfl) (by (try dsimp only); (first | exact ⟨hS1, hS2⟩ | exact ⟨Step.of, (bcell (fut _ _)).1⟩)) (fun hHeld => ?_)
            refine wpAnyH_take (i := 0) (oi := ⟨some 30, _, _, _, _, _⟩) (v := ?_) rfl (by kernel_rfl) (by kernel_rfl) (by kernel_rfl) (fun _ _ _ h => h) (Or.inl ⟨by rfl, ?_⟩) (by assumption) ?_
            rotate_left
            · ((intro w hSw); (try dsimp only at hSw); go_simp; (try with_reducible rfl))
            (try simp only [Act.put, List.setIfInBounds_toArray, List.set_cons_zero, List.set_cons_succ])
            refine wpAnyH_take (i := 2) (oi := ⟨some 32, _, _, _, _, _⟩) (v := ?_) rfl (by kernel_rfl) (by kernel_rfl) (by kernel_rfl) (fun _ _ _ h => h) (Or.inl ⟨by rfl, ?_⟩) (by assumption) ?_
            rotate_left
            · ((intro w hSw); (try dsimp only at hSw); go_simp; (try with_reducible rfl))
            (try simp only [Act.put, List.setIfInBounds_toArray, List.set_cons_zero, List.set_cons_succ])
            refine wpAnyH_take (i := 5) (oi := ⟨some 35, _, _, _, _, _⟩) (v := ?_) rfl (by kernel_rfl) (by kernel_rfl) (by kernel_rfl) (fun _ _ _ h => h) (Or.inl ⟨by rfl, ?_⟩) (by assumption) ?_
            rotate_left
            · ((intro w hSw); (try dsimp only at hSw); go_simp; (try with_reducible rfl))
            (try simp only [Act.put, List.setIfInBounds_toArray, List.set_cons_zero, List.set_cons_succ])
            refine wpAnyH_take (i := 7) (oi := ⟨some 37, _, _, _, _, _⟩) (v := ?_) rfl (by kernel_rfl) (by kernel_rfl) (by kernel_rfl) (fun _ _ _ h => h) (Or.inl ⟨by rfl, ?_⟩) (by assumption) ?_
            rotate_left
            · ((intro w hSw); (try dsimp only at hSw); go_simp; (try with_reducible rfl))
            (try simp only [Act.put, List.setIfInBounds_toArray, List.set_cons_zero, List.set_cons_succ])
            refine wpAnyH_take (i := 8) (oi := ⟨some 38, _, _, _, _, _⟩) (v := ?_) rfl (by kernel_rfl) (by kernel_rfl) (by kernel_rfl) (fun _ _ _ h => h) (Or.inl ⟨by rfl, ?_⟩) (by assumption) ?_
            rotate_left
            · ((intro w hSw); (try dsimp only at hSw); go_simp; (try with_reducible rfl))
            (try simp only [Act.put, List.setIfInBounds_toArray, List.set_cons_zero, List.set_cons_succ])
            refine wpAnyH_take (i := 10) (oi := ⟨some 40, _, _, _, _, _⟩) (v := ?_) rfl (by kernel_rfl) (by kernel_rfl) (by kernel_rfl) (fun _ _ _ h => h) (Or.inl ⟨by rfl, ?_⟩) (by assumption) ?_
            rotate_left
            · ((intro w hSw); (try dsimp only at hSw); go_simp; (try with_reducible rfl))
            (try simp only [Act.put, List.setIfInBounds_toArray, List.set_cons_zero, List.set_cons_succ])
            refine wpAnyH_take (i := 1) (oi := ⟨some 31, _, _, _, _, _⟩) (v := ?_) rfl (by kernel_rfl) (by kernel_rfl) (by kernel_rfl) (fun _ _ _ h => h) (Or.inl ⟨by rfl, ?_⟩) (by assumption) ?_
            rotate_left
            · ((intro w hSw); (try dsimp only at hSw); go_simp; (try with_reducible rfl))
            (try simp only [Act.put, List.setIfInBounds_toArray, List.set_cons_zero, List.set_cons_succ])
            refine wpAnyH_take (i := 6) (oi := ⟨some 36, _, _, _, _, _⟩) (v := ?_) rfl (by kernel_rfl) (by kernel_rfl) (by kernel_rfl) (fun _ _ _ h => h) (Or.inl ⟨by rfl, ?_⟩) (by assumption) ?_
            rotate_left
            · ((intro w hSw); (try dsimp only at hSw); go_simp; (try with_reducible rfl))
            (try simp only [Act.put, List.setIfInBounds_toArray, List.set_cons_zero, List.set_cons_succ])
            refine wpAnyH_take (i := 9) (oi := ⟨some 39, _, _, _, _, _⟩) (v := ?_) rfl (by kernel_rfl) (by kernel_rfl) (by kernel_rfl) (fun _ _ _ h => h) (Or.inl ⟨by rfl, ?_⟩) (by assumption) ?_
            rotate_left
            · ((intro w hSw); (try dsimp only at hSw); go_simp; (try with_reducible rfl))
            (try simp only [Act.put, List.setIfInBounds_toArray, List.set_cons_zero, List.set_cons_succ])
            refine wpAnyH_take (i := 3) (oi := ⟨some 33, _, _, _, _, _⟩) (v := ?_) rfl (by kernel_rfl) (by kernel_rfl) (by kernel_rfl) (fun _ _ _ h => h) (Or.inl ⟨by rfl, ?_⟩) (by assumption) ?_
            rotate_left
            · ((intro w hSw); (try dsimp only at hSw); go_simp; (try with_reducible rfl))
            (try simp only [Act.put, List.setIfInBounds_toArray, List.set_cons_zero, List.set_cons_succ])
            refine wpAnyH_take (i := 11) (oi := ⟨some 41, _, _, _, _, _⟩) (v := ?_) rfl (by kernel_rfl) (by kernel_rfl) (by kernel_rfl) (fun _ _ _ h => h) (Or.inl ⟨by rfl, ?_⟩) (by assumption) ?_
            rotate_left
            · ((intro w hSw); (try dsimp only at hSw); go_simp; (try with_reducible rfl))
            (try simp only [Act.put, List.setIfInBounds_toArray, List.set_cons_zero, List.set_cons_succ])
            refine wpAnyH_take (i := 4) (oi := ⟨some 34, _, _, _, _, _⟩) (v := ?_) rfl (by kernel_rfl) (by kernel_rfl) (by kernel_rfl) (fun _ _ _ h => h) (Or.inl ⟨by rfl, ?_⟩) (by assumption) ?_
            rotate_left
            · ((intro w hSw); (try dsimp only at hSw); go_simp; (try with_reducible rfl))
            (try simp only [Act.put, List.setIfInBounds_toArray, List.set_cons_zero, List.set_cons_succ])
            refine wpAnyH_take (i := 12) (oi := ⟨some 42, _, _, _, _, _⟩) (v := ?_) rfl (by kernel_rfl) (by kernel_rfl) (by kernel_rfl) (fun _ _ _ h => h) (Or.inl ⟨by rfl, ?_⟩) (by assumption) ?_
            rotate_left
            · ((intro w hSw); (try dsimp only at hSw); go_simp; (try with_reducible rfl))
            (try simp only [Act.put, List.setIfInBounds_toArray, List.set_cons_zero, List.set_cons_succ])
            refine wpAnyH_take (i := 13) (oi := ⟨some 43, _, _, _, _, _⟩) (v := ?_) rfl (by kernel_rfl) (by kernel_rfl) (by kernel_rfl) (fun _ _ _ h => h) (Or.inl ⟨by rfl, ?_⟩) (by assumption) ?_
            rotate_left
            · ((intro w hSw); (try dsimp only at hSw); go_simp; (try with_reducible rfl))
            (try simp only [Act.put, List.setIfInBounds_toArray, List.set_cons_zero, List.set_cons_succ])
            refine wpAnyH_ready (rs := [14, 21]) (by kernel_rfl) (by simp) ?_
            refine AllReadyH.cons (o := ⟨some 44, _, _, _, _, _⟩) rfl (fun K hK => ?_) (AllReadyH.cons (o := ⟨some 10, _, _, _, _, _⟩) rfl (fun K hK => ?_) AllReadyH.nil)
            · obtain ⟨hS1, hS2⟩ := hHeld
              go_simp
              (go_at_call 62; (with_reducible refine (FD.out _).mono ?_); rintro e w5 ⟨rfl, hs5⟩; (first | (have b_ := HB10.out.fut (w' := w5); have f10 := b_.free; have l10 := b_.lt; obtain ⟨g0, g1, g2, g3⟩ := At.z4 b_.at0; clear b_) | skip))
              refine hK.out _ _ (by (try dsimp only); (first | exact ⟨hS1, hS2⟩ | exact ⟨Step.of, (bcell (fut _ _)).1⟩)) (fun hHeld => ?_)
              clear hK K
              (try simp only [Act.put, List.setIfInBounds_toArray, List.set_cons_zero, List.set_cons_succ])
              refine wpAnyH_take (i := 15) (oi := ⟨some 45, _, _, _, _, _⟩) (v := ?_) rfl (by kernel_rfl) (by kernel_rfl) (by kernel_rfl) (fun _ _ _ h => h) (Or.inl ⟨by rfl, ?_⟩) (by assumption) ?_
              rotate_left
              · ((intro w hSw); (try dsimp only at hSw); go_simp; (try with_reducible rfl))
              (try simp only [Act.put, List.setIfInBounds_toArray, List.set_cons_zero, List.set_cons_succ])
              refine wpAnyH_take (i := 16) (oi := ⟨some 46, _, _, _, _, _⟩) (v := ?_) rfl (by kernel_rfl) (by kernel_rfl) (by kernel_rfl) (fun _ _ _ h => h) (Or.inl ⟨by rfl, ?_⟩) (by assumption) ?_
              rotate_left
              · ((intro w hSw); (try dsimp only at hSw); go_simp; (try with_reducible rfl))
              (try simp only [Act.put, List.setIfInBounds_toArray, List.set_cons_zero, List.set_cons_succ])
              refine wpAnyH_ready (rs := [17, 21]) (by kernel_rfl) (by simp) ?_
              refine AllReadyH.cons (o := ⟨some 47, _, _, _, _, _⟩) rfl (fun K hK => ?_) (AllReadyH.cons (o := ⟨some 10, _, _, _, _, _⟩) rfl (fun K hK => ?_) AllReadyH.nil)
              · obtain ⟨hS1, hS2⟩ := hHeld
                go_simp
                (go_at_call 61; (with_reducible refine (AP.out _).mono ?_); rintro e w6 ⟨rfl, hs6⟩; (try clear f10 l10 g0 g1 g2 g3); (first | (have b_ := HB10.out.fut (w' := w6); have f10 := b_.free; have l10 := b_.lt; obtain ⟨g0, g1, g2, g3⟩ := At.z4 b_.at0; clear b_) | skip))
                refine hK.out _ _ (by (try dsimp only); (first | exact ⟨hS1, hS2⟩ | exact ⟨Step.of, (bcell (fut _ _)).1⟩)) (fun hHeld => ?_)
                clear hK K
                (try simp only [Act.put, List.setIfInBounds_toArray, List.set_cons_zero, List.set_cons_succ])
                refine wpAnyH_take (i := 18) (oi := ⟨some 29, _, _, _, _, _⟩) (v := ?_) rfl (by kernel_rfl) (by kernel_rfl) (by kernel_rfl) (fun _ _ _ h => h) (Or.inl ⟨by rfl, ?_⟩) (by assumption) ?_
                rotate_left
                · ((intro w hSw); (try dsimp only at hSw); go_simp; (try with_reducible rfl))
                (try simp only [Act.put, List.setIfInBounds_toArray, List.set_cons_zero, List.set_cons_succ])
                refine wpAnyH_take (i := 19) (oi := ⟨some 48, _, _, _, _, _⟩) (v := ?_) rfl (by kernel_rfl) (by kernel_rfl) (by kernel_rfl) (fun _ _ _ h => h) (Or.inl ⟨by rfl, ?_⟩) (by assumption) ?_
                rotate_left
                · ((intro w hSw); (try dsimp only at hSw); go_simp; (try with_reducible rfl))
                (try simp only [Act.put, List.setIfInBounds_toArray, List.set_cons_zero, List.set_cons_succ])
                refine wpAnyH_take (i := 20) (oi := ⟨some 49, _, _, _, _, _⟩) (v := ?_) rfl (by kernel_rfl) (by kernel_rfl) (by kernel_rfl) (fun _ _ _ h => h) (Or.inl ⟨by rfl, ?_⟩) (by assumption) ?_
                rotate_left
                · ((intro w hSw); (try dsimp only at hSw); go_simp; (try with_reducible rfl))
                (try simp only [Act.put, List.setIfInBounds_toArray, List.set_cons_zero, List.set_cons_succ])
                refine wpAnyH_ready (rs := [21]) (by kernel_rfl) (by simp) ?_
                refine AllReadyH.cons (o := ⟨some 10, _, _, _, _, _⟩) rfl (fun K hK => ?_) AllReadyH.nil
                (go_simp; first | have HB10 := hide (Blk.new w6 [.int .i64 0, .int .i64 0, .bool false, .string ⟨#[]⟩] 57) | have HB10 := hide (Blk.new w5 [.int .i64 0, .int .i64 0, .bool false, .string ⟨#[]⟩] 57) | have HB10 := hide (Blk.new wo [.int .i64 0, .int .i64 0, .bool false, .string ⟨#[]⟩] 57))
                refine hK.out _ _ (by (try dsimp only); (exact ⟨Step.of, (bcell (fut _ _)).1⟩)) (fun hHeld => ?_)
                clear hK K
                (try simp only [Act.put, List.setIfInBounds_toArray, List.set_cons_zero, List.set_cons_succ])
                refine wpAnyH_ready (rs := [22]) (by kernel_rfl) (by simp) ?_
                refine AllReadyH.cons (o := ⟨none, _, _, _, _, _⟩) rfl (fun K hK => ?_) AllReadyH.nil
                go_simp
                refine hK.out _ _ (by (try dsimp only); (exact ⟨Step.of, (bcell (fut _ _)).1⟩)) (fun hHeld => ?_)
                clear hK K
                (try simp only [Act.put, List.setIfInBounds_toArray, List.set_cons_zero, List.set_cons_succ])
                refine wpAnyH_take (i := 23) (oi := ⟨some 11, _, _, _, _, _⟩) (v := ?_) rfl (by kernel_rfl) (by kernel_rfl) (by kernel_rfl) (fun _ _ _ h => h) (Or.inl ⟨by rfl, ?_⟩) (by assumption) ?_
                rotate_left
                · ((intro w hSw); (try dsimp only at hSw); go_simp; (try with_reducible rfl))
                (try simp only [Act.put, List.setIfInBounds_toArray, List.set_cons_zero, List.set_cons_succ])
                refine wpAnyH_done (by kernel_rfl) ?_ _
                go_wp2_with fail
                go_meet
                case rel => first | exact ⟨_, rfl, Blk.new w6 [.int .i64 rk, .int .i64 ri, .bool rb, .string rs] 57, Step.of⟩ | exact ⟨_, rfl, (((HB10.out.set_ 0 (.int .i64 rk)).set_ 1 (.int .i64 ri)).set_ 2 (.bool rb)).set_ 3 (.string rs), Step.of⟩ | exact ⟨_, rfl, ((((HB10.out.fut (w' := w6)).set_ 0 (.int .i64 rk)).set_ 1 (.int .i64 ri)).set_ 2 (.bool rb)).set_ 3 (.string rs), Step.of⟩
              · (go_simp; first | have HB10 := hide (Blk.new w6 [.int .i64 0, .int .i64 0, .bool false, .string ⟨#[]⟩] 57) | have HB10 := hide (Blk.new w5 [.int .i64 0, .int .i64 0, .bool false, .string ⟨#[]⟩] 57) | have HB10 := hide (Blk.new wo [.int .i64 0, .int .i64 0, .bool false, .string ⟨#[]⟩] 57))
                refine hK.out _ _ (by (try dsimp only); (exact ⟨Step.of, (bcell (fut _ _)).1⟩)) (fun hHeld => ?_)
                clear hK K
                (try simp only [Act.put, List.setIfInBounds_toArray, List.set_cons_zero, List.set_cons_succ])
                refine wpAnyH_ready (rs := [17]) (by kernel_rfl) (by simp) ?_
                refine AllReadyH.cons (o := ⟨some 47, _, _, _, _, _⟩) rfl (fun K hK => ?_) AllReadyH.nil
                obtain ⟨hS1, hS2⟩ := hHeld
                go_simp
                (go_at_call 61; (with_reducible refine (AP.out _).mono ?_); rintro e w6 ⟨rfl, hs6⟩; (try clear f10 l10 g0 g1 g2 g3); (first | (have b_ := HB10.out.fut (w' := w6); have f10 := b_.free; have l10 := b_.lt; obtain ⟨g0, g1, g2, g3⟩ := At.z4 b_.at0; clear b_) | skip))
                refine hK.out _ _ (by (try dsimp only); (first | exact ⟨hS1, hS2⟩ | exact ⟨Step.of, (bcell (fut _ _)).1⟩)) (fun hHeld => ?_)
                clear hK K
                (try simp only [Act.put, List.setIfInBounds_toArray, List.set_cons_zero, List.set_cons_succ])
                refine wpAnyH_take (i := 18) (oi := ⟨some 29, _, _, _, _, _⟩) (v := ?_) rfl (by kernel_rfl) (by kernel_rfl) (by kernel_rfl) (fun _ _ _ h => h) (Or.inl ⟨by rfl, ?_⟩) (by assumption) ?_
                rotate_left
                · ((intro w hSw); (try dsimp only at hSw); go_simp; (try with_reducible rfl))
                (try simp only [Act.put, List.setIfInBounds_toArray, List.set_cons_zero, List.set_cons_succ])
                refine wpAnyH_take (i := 19) (oi := ⟨some 48, _, _, _, _, _⟩) (v := ?_) rfl (by kernel_rfl) (by kernel_rfl) (by kernel_rfl) (fun _ _ _ h => h) (Or.inl ⟨by rfl, ?_⟩) (by assumption) ?_
                rotate_left
                · ((intro w hSw); (try dsimp only at hSw); go_simp; (try with_reducible rfl))
                (try simp only [Act.put, List.setIfInBounds_toArray, List.set_cons_zero, List.set_cons_succ])
                refine wpAnyH_take (i := 20) (oi := ⟨some 49, _, _, _, _, _⟩) (v := ?_) rfl (by kernel_rfl) (by kernel_rfl) (by kernel_rfl) (fun _ _ _ h => h) (Or.inl ⟨by rfl, ?_⟩) (by assumption) ?_
                rotate_left
                · ((intro w hSw); (try dsimp only at hSw); go_simp; (try with_reducible rfl))
                (try simp only [Act.put, List.setIfInBounds_toArray, List.set_cons_zero, List.set_cons_succ])
                refine wpAnyH_ready (rs := [22]) (by kernel_rfl) (by simp) ?_
                refine AllReadyH.cons (o := ⟨none, _, _, _, _, _⟩) rfl (fun K hK => ?_) AllReadyH.nil
                go_simp
                refine hK.out _ _ (by (try dsimp only); (exact ⟨Step.of, (bcell (fut _ _)).1⟩)) (fun hHeld => ?_)
                clear hK K
                (try simp only [Act.put, List.setIfInBounds_toArray, List.set_cons_zero, List.set_cons_succ])
                refine wpAnyH_take (i := 23) (oi := ⟨some 11, _, _, _, _, _⟩) (v := ?_) rfl (by kernel_rfl) (by kernel_rfl) (by kernel_rfl) (fun _ _ _ h => h) (Or.inl ⟨by rfl, ?_⟩) (by assumption) ?_
                rotate_left
                · ((intro w hSw); (try dsimp only at hSw); go_simp; (try with_reducible rfl))
                (try simp only [Act.put, List.setIfInBounds_toArray, List.set_cons_zero, List.set_cons_succ])
                refine wpAnyH_done (by kernel_rfl) ?_ _
                go_wp2_with fail
                go_meet
                case rel => first | exact ⟨_, rfl, Blk.new w6 [.int .i64 rk, .int .i64 ri, .bool rb, .string rs] 57, Step.of⟩ | exact ⟨_, rfl, (((HB10.out.set_ 0 (.int .i64 rk)).set_ 1 (.int .i64 ri)).set_ 2 (.bool rb)).set_ 3 (.string rs), Step.of⟩ | exact ⟨_, rfl, ((((HB10.out.fut (w' := w6)).set_ 0 (.int .i64 rk)).set_ 1 (.int .i64 ri)).set_ 2 (.bool rb)).set_ 3 (.string rs), Step.of⟩
            · (go_simp; first | have HB10 := hide (Blk.new w6 [.int .i64 0, .int .i64 0, .bool false, .string ⟨#[]⟩] 57) | have HB10 := hide (Blk.new w5 [.int .i64 0, .int .i64 0, .bool false, .string ⟨#[]⟩] 57) | have HB10 := hide (Blk.new wo [.int .i64 0, .int .i64 0, .bool false, .string ⟨#[]⟩] 57))
              refine hK.out _ _ (by (try dsimp only); (exact ⟨Step.of, (bcell (fut _ _)).1⟩)) (fun hHeld => ?_)
              clear hK K
              (try simp only [Act.put, List.setIfInBounds_toArray, List.set_cons_zero, List.set_cons_succ])
              refine wpAnyH_ready (rs := [14]) (by kernel_rfl) (by simp) ?_
              refine AllReadyH.cons (o := ⟨some 44, _, _, _, _, _⟩) rfl (fun K hK => ?_) AllReadyH.nil
              obtain ⟨hS1, hS2⟩ := hHeld
              go_simp
              (go_at_call 62; (with_reducible refine (FD.out _).mono ?_); rintro e w5 ⟨rfl, hs5⟩; (first | (have b_ := HB10.out.fut (w' := w5); have f10 := b_.free; have l10 := b_.lt; obtain ⟨g0, g1, g2, g3⟩ := At.z4 b_.at0; clear b_) | skip))
              refine hK.out _ _ (by (try dsimp only); (first | exact ⟨hS1, hS2⟩ | exact ⟨Step.of, (bcell (fut _ _)).1⟩)) (fun hHeld => ?_)
              clear hK K
              (try simp only [Act.put, List.setIfInBounds_toArray, List.set_cons_zero, List.set_cons_succ])
              refine wpAnyH_take (i := 15) (oi := ⟨some 45, _, _, _, _, _⟩) (v := ?_) rfl (by kernel_rfl) (by kernel_rfl) (by kernel_rfl) (fun _ _ _ h => h) (Or.inl ⟨by rfl, ?_⟩) (by assumption) ?_
              rotate_left
              · ((intro w hSw); (try dsimp only at hSw); go_simp; (try with_reducible rfl))
              (try simp only [Act.put, List.setIfInBounds_toArray, List.set_cons_zero, List.set_cons_succ])
              refine wpAnyH_take (i := 16) (oi := ⟨some 46, _, _, _, _, _⟩) (v := ?_) rfl (by kernel_rfl) (by kernel_rfl) (by kernel_rfl) (fun _ _ _ h => h) (Or.inl ⟨by rfl, ?_⟩) (by assumption) ?_
              rotate_left
              · ((intro w hSw); (try dsimp only at hSw); go_simp; (try with_reducible rfl))
              (try simp only [Act.put, List.setIfInBounds_toArray, List.set_cons_zero, List.set_cons_succ])
              refine wpAnyH_ready (rs := [17]) (by kernel_rfl) (by simp) ?_
              refine AllReadyH.cons (o := ⟨some 47, _, _, _, _, _⟩) rfl (fun K hK => ?_) AllReadyH.nil
              obtain ⟨hS1, hS2⟩ := hHeld
              go_simp
              (go_at_call 61; (with_reducible refine (AP.out _).mono ?_); rintro e w6 ⟨rfl, hs6⟩; (try clear f10 l10 g0 g1 g2 g3); (first | (have b_ := HB10.out.fut (w' := w6); have f10 := b_.free; have l10 := b_.lt; obtain ⟨g0, g1, g2, g3⟩ := At.z4 b_.at0; clear b_) | skip))
              refine hK.out _ _ (by (try dsimp only); (first | exact ⟨hS1, hS2⟩ | exact ⟨Step.of, (bcell (fut _ _)).1⟩)) (fun hHeld => ?_)
              clear hK K
              (try simp only [Act.put, List.setIfInBounds_toArray, List.set_cons_zero, List.set_cons_succ])
              refine wpAnyH_take (i := 18) (oi := ⟨some 29, _, _, _, _, _⟩) (v := ?_) rfl (by kernel_rfl) (by kernel_rfl) (by kernel_rfl) (fun _ _ _ h => h) (Or.inl ⟨by rfl, ?_⟩) (by assumption) ?_
              rotate_left
              · ((intro w hSw); (try dsimp only at hSw); go_simp; (try with_reducible rfl))
              (try simp only [Act.put, List.setIfInBounds_toArray, List.set_cons_zero, List.set_cons_succ])
              refine wpAnyH_take (i := 19) (oi := ⟨some 48, _, _, _, _, _⟩) (v := ?_) rfl (by kernel_rfl) (by kernel_rfl) (by kernel_rfl) (fun _ _ _ h => h) (Or.inl ⟨by rfl, ?_⟩) (by assumption) ?_
              rotate_left
              · ((intro w hSw); (try dsimp only at hSw); go_simp; (try with_reducible rfl))
              (try simp only [Act.put, List.setIfInBounds_toArray, List.set_cons_zero, List.set_cons_succ])
              refine wpAnyH_take (i := 20) (oi := ⟨some 49, _, _, _, _, _⟩) (v := ?_) rfl (by kernel_rfl) (by kernel_rfl) (by kernel_rfl) (fun _ _ _ h => h) (Or.inl ⟨by rfl, ?_⟩) (by assumption) ?_
              rotate_left
              · ((intro w hSw); (try dsimp only at hSw); go_simp; (try with_reducible rfl))
              (try simp only [Act.put, List.setIfInBounds_toArray, List.set_cons_zero, List.set_cons_succ])
              refine wpAnyH_ready (rs := [22]) (by kernel_rfl) (by simp) ?_
              refine AllReadyH.cons (o := ⟨none, _, _, _, _, _⟩) rfl (fun K hK => ?_) AllReadyH.nil
              go_simp
              refine hK.out _ _ (by (try dsimp only); (exact ⟨Step.of, (bcell (fut _ _)).1⟩)) (fun hHeld => ?_)
              clear hK K
              (try simp only [Act.put, List.setIfInBounds_toArray, List.set_cons_zero, List.set_cons_succ])
              refine wpAnyH_take (i := 23) (oi := ⟨some 11, _, _, _, _, _⟩) (v := ?_) rfl (by kernel_rfl) (by kernel_rfl) (by kernel_rfl) (fun _ _ _ h => h) (Or.inl ⟨by rfl, ?_⟩) (by assumption) ?_
              rotate_left
              · ((intro w hSw); (try dsimp only at hSw); go_simp; (try with_reducible rfl))
              (try simp only [Act.put, List.setIfInBounds_toArray, List.set_cons_zero, List.set_cons_succ])
              refine wpAnyH_done (by kernel_rfl) ?_ _
              go_wp2_with fail
              go_meet
              case rel => first | exact ⟨_, rfl, Blk.new w6 [.int .i64 rk, .int .i64 ri, .bool rb, .string rs] 57, Step.of⟩ | exact ⟨_, rfl, (((HB10.out.set_ 0 (.int .i64 rk)).set_ 1 (.int .i64 ri)).set_ 2 (.bool rb)).set_ 3 (.string rs), Step.of⟩ | exact ⟨_, rfl, ((((HB10.out.fut (w' := w6)).set_ 0 (.int .i64 rk)).set_ 1 (.int .i64 ri)).set_ 2 (.bool rb)).set_ 3 (.string rs), Step.of⟩
          case rest =>
            obtain ⟨g10, rfl, hg10, hsX⟩ := hcut
            obtain ⟨Y, rfl⟩ : ∃ x : World, x = wc := ⟨_, rfl⟩
            clear p0 p1 lp q0 q1 q2 lq r0 lr c0 c1 c2 hlb v0 v1 v2 v3 hl4
            have zY := hsX.size
            obtain ⟨x0, x1, x2, x3⟩ := At.z4 hg10.at0; have lg := hg10.lt
            have HOW := hide ((HO.out.fut (w' := Y)).alloc (.cells #[.int .i64 rk, .int .i64 ri, .bool rb, .string rs] 57))
            have HNew := hide (SlAt.one Y 4 [.int .i64 rk, .int .i64 ri, .bool rb, .string rs] 57)
            clear hg10
            go_wp2_with (at_builtin; go_loud (refine wpList_append_sl rfl (.tmp 50) (.tmp 52) 52 rfl eiV4 (base := W.heap.size) (xs := (partT s (fs.take k) vs).map Val.cells) rfl HOW.out (vals_fit _) (ys := [[.int .i64 rk, .int .i64 ri, .bool rb, .string rs]]) rfl (by simp) HNew.out (vals_fit [⟨rk, ri, rb, rs⟩]) (by rw [HLN.out]; show (k + 1) * 40 ≤ _; omega) (fut W (Y.alloc (.cells #[.int .i64 rk, .int .i64 ri, .bool rb, .string rs] 57))).size (N := k + 1) (by rw [HLN.out]; rfl) ?_; intro A7 c7 w7 hq1 hq2 hown7 hgr7 hbel7; have H7 := hide hown7; have HB7 := hide hbel7; clear hown7 hgr7 hbel7))
            go_roundw
            case rel =>
              refine ⟨k + 1, A7, c7, by omega, by go_num, rfl, ?_, ⟨(fut W (Y.alloc (.cells #[.int .i64 rk, .int .i64 ri, .bool rb, .string rs] 57))).trans HB7.out⟩⟩
              rw [HPS.out, List.map_append]
              exact H7.out
            case measure => simp [intOf]; omega
        · obtain rfl : k = fs.length := by omega
          rw [List.take_length] at HO
          go_wp2_with fail
          go_ret2
          exact ⟨A', c', by rw [hE.out]; show _ = Ending.returned (.tuple #[.slice A' (partT s fs vs).length c', _]); rw [partT_len]; rfl, by rw [hE.out]; show Own _ _ _ _ (.slice A' (partT s fs vs).length c') _; rw [partT_len]; exact HO.out.more (by omega), Step.of⟩
end Go.Proofs.YtafgfehjdbomfaaDoor
