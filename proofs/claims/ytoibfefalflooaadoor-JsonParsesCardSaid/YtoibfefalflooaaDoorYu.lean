/-
  Plain facts on texts of runes: the rune at a place, the first place that is none's beginning.
-/
import Derived.Test.YtoibfefalflooaaDoorData
import Derived.Laws.BitsAllLaws
namespace Go.Proofs.YtoibfefalflooaaDoor
open Go.RowKit

/-- A byte of UTF-8 that goes on: its six bits; -1: none. -/
def nextB (s : ByteArray) (i : Nat) : Int := if h : i < s.size then (if 128 ≤ s[i].toNat ∧ s[i].toNat ≤ 191 then (s[i].toNat : Int) - 128 else -1) else -1
/-- The rune of a first byte and what goes on. -/
def runeC (c a b d : Int) : Int × Int :=
  if c < 128 then (c, 1)
  else if c < 194 ∨ 244 < c then (0, 0)
  else if c < 224 ∧ 0 ≤ a then ((c - 192) * 64 + a, 2)
  else if 224 ≤ c ∧ c < 240 ∧ 0 ≤ a ∧ 0 ≤ b then (if 2048 ≤ (c - 224) * 4096 + a * 64 + b ∧ ((c - 224) * 4096 + a * 64 + b < 55296 ∨ 57343 < (c - 224) * 4096 + a * 64 + b) then ((c - 224) * 4096 + a * 64 + b, 3) else (0, 0))
  else if 240 ≤ c ∧ 0 ≤ a ∧ 0 ≤ b ∧ 0 ≤ d then (if 65536 ≤ (c - 240) * 262144 + a * 4096 + b * 64 + d ∧ (c - 240) * 262144 + a * 4096 + b * 64 + d ≤ 1114111 then ((c - 240) * 262144 + a * 4096 + b * 64 + d, 4) else (0, 0))
  else (0, 0)
/-- The rune at a place, and how many bytes it has. -/
def runeT (s : ByteArray) (i : Nat) : Int × Int := if h : i < s.size then runeC s[i].toNat (nextB s (i + 1)) (nextB s (i + 2)) (nextB s (i + 3)) else (0, 0)
def runeR (s : ByteArray) (at_ : Int) : Int × Int := if at_ < 0 then (0, 0) else runeT s at_.toNat

theorem nextB_lt {s : ByteArray} {i : Nat} (h : 0 ≤ nextB s i) : i < s.size := by
  unfold nextB at h
  split at h
  · assumption
  · omega
theorem nextB_bd (s : ByteArray) (i : Nat) : -1 ≤ nextB s i ∧ nextB s i < 64 := by
  unfold nextB
  split
  · split <;> omega
  · omega
theorem runeT_bd (s : ByteArray) (i : Nat) : 0 ≤ (runeT s i).2 ∧ (runeT s i).2 ≤ 4 ∧ (0 < (runeT s i).2 → i + (runeT s i).2.toNat ≤ s.size) := by
  unfold runeT
  split
  · rename_i hi
    have h1 : 0 ≤ nextB s (i + 1) → i + 1 < s.size := nextB_lt
    have h2 : 0 ≤ nextB s (i + 2) → i + 2 < s.size := nextB_lt
    have h3 : 0 ≤ nextB s (i + 3) → i + 3 < s.size := nextB_lt
    unfold runeC
    split
    · simp; omega
    split
    · simp
    split
    · simp; omega
    split
    · split <;> simp
      omega
    split
    · split <;> simp
      omega
    · simp
  · simp

/-- The first place that is no rune's beginning; -1: all are runes. -/
def firstN : Nat → ByteArray → Nat → Int
  | 0, _, _ => -1
  | f + 1, s, i => if i < s.size then (if (runeT s i).2 = 0 then (i : Int) else firstN f s (i + (runeT s i).2.toNat)) else -1
def firstR (s : ByteArray) : Int := firstN (s.size + 1) s 0
def validB (s : ByteArray) : Bool := decide (firstR s < 0)
theorem firstN_bd : ∀ (f : Nat) (s : ByteArray) (i : Nat), -1 ≤ firstN f s i ∧ firstN f s i < s.size ∨ firstN f s i = -1
  | 0, _, _ => .inr rfl
  | f + 1, s, i => by
    unfold firstN
    split
    · split
      · exact .inl ⟨by omega, by omega⟩
      · exact firstN_bd f s _
    · exact .inr rfl
theorem firstR_eq (s : ByteArray) : (firstR s == -1) = validB s := by
  unfold validB
  rcases firstN_bd (s.size + 1) s 0 with h | h
  · rw [show firstR s = firstN (s.size + 1) s 0 from rfl]
    by_cases e : firstN (s.size + 1) s 0 = -1
    · simp [e]
    · have : ¬ firstN (s.size + 1) s 0 < 0 := by omega
      simp [e, this]
  · rw [show firstR s = firstN (s.size + 1) s 0 from rfl, h]
    rfl

/-- The place behind the first so many runes. -/
def preN : Nat → ByteArray → Nat → Nat
  | 0, _, i => i
  | m + 1, s, i => if i < s.size then preN m s (i + (max (runeT s i).2 1).toNat) else i
theorem preN_stop {s : ByteArray} {i : Nat} (h : s.size ≤ i) : ∀ m, preN m s i = i
  | 0 => rfl
  | m + 1 => by unfold preN; rw [if_neg (by omega)]
theorem pre_step (s : ByteArray) (i : Nat) (h : i < s.size) : i + (max (runeT s i).2 1).toNat ≤ s.size := by
  obtain ⟨h1, h2, h3⟩ := runeT_bd s i
  by_cases e : 0 < (runeT s i).2
  · rw [show max (runeT s i).2 1 = (runeT s i).2 by omega]; exact h3 e
  · rw [show max (runeT s i).2 1 = 1 by omega]; simp; omega
theorem preN_le : ∀ (m : Nat) (s : ByteArray) (i : Nat), i ≤ s.size → preN m s i ≤ s.size
  | 0, _, _, h => h
  | m + 1, s, i, h => by
    unfold preN
    split
    · rename_i hi
      exact preN_le m s _ (pre_step s i hi)
    · exact h

/-! ### The forms of 1 to 4 bytes, as the program asks for them -/
def maskT : Nat → Int | 1 => 128 | 2 => 224 | 3 => 240 | 4 => 248 | _ => 0
def headT : Nat → Int | 1 => 0 | 2 => 192 | 3 => 224 | 4 => 240 | _ => 0
def leastT : Nat → Int | 2 => 128 | 3 => 2048 | 4 => 65536 | _ => 0
/-- Which form a first byte has; 5: none. -/
def formT (c : Nat) : Nat := if c < 128 then 1 else if c < 192 then 5 else if c < 224 then 2 else if c < 240 then 3 else if c < 248 then 4 else 5
theorem form_tests : ∀ c : Fin 256, ∀ k : Fin 5, (bits .and .i64 (c.val : Int) (maskT k.val) == headT k.val) = (k.val == 0 || k.val == formT c.val) := by decide +kernel
theorem form_test (c : UInt8) {k : Nat} (hk : k < 5) : (bits .and .i64 (c.toNat : Int) (maskT k) == headT k) = (k == 0 || k == formT c.toNat) := form_tests ⟨c.toNat, c.toNat_lt⟩ ⟨k, hk⟩
theorem form_rests : ∀ c : Fin 256, ∀ k : Fin 5, formT c.val = k.val → bits .andNot .i64 (c.val : Int) (maskT k.val) = (c.val : Int) - headT k.val := by decide +kernel
theorem form_rest (c : UInt8) {k : Nat} (hk : k < 5) (h : formT c.toNat = k) : bits .andNot .i64 (c.toNat : Int) (maskT k) = (c.toNat : Int) - headT k := form_rests ⟨c.toNat, c.toNat_lt⟩ ⟨k, hk⟩ h
theorem on_tests : ∀ c : Fin 256, (bits .and .u8 (c.val : Int) 192 == 128) = (decide (128 ≤ c.val) && decide (c.val ≤ 191)) ∧ bits .and .u8 (c.val : Int) 63 = ((c.val % 64 : Nat) : Int) := by decide +kernel
theorem on_test (c : UInt8) : (bits .and .u8 (c.toNat : Int) 192 == 128) = (decide (128 ≤ c.toNat) && decide (c.toNat ≤ 191)) ∧ bits .and .u8 (c.toNat : Int) 63 = ((c.toNat % 64 : Nat) : Int) := on_tests ⟨c.toNat, c.toNat_lt⟩

def mayR (r : Int) : Bool := decide (0 ≤ r) && decide (r ≤ 1114111) && (decide (r < 55296) || decide (57343 < r))
/-- The number behind j bytes that go on. -/
def accT (s : ByteArray) (i : Nat) (c : Int) : Nat → Int
  | 0 => c
  | j + 1 => accT s i c j * 64 + nextB s (i + 1 + j)
theorem accT_bd {s : ByteArray} {i : Nat} {c : Int} (h0 : 0 ≤ c) (h1 : c < 256) : ∀ {j : Nat}, (∀ k, k < j → 0 ≤ nextB s (i + 1 + k)) → 0 ≤ accT s i c j ∧ accT s i c j < 256 * 64 ^ j
  | 0, _ => by simp [accT]; omega
  | j + 1, h => by
    have ⟨a, b⟩ := accT_bd h0 h1 (j := j) (fun k hk => h k (by omega))
    have n0 := h j (by omega)
    have n1 := (nextB_bd s (i + 1 + j)).2
    simp only [accT, Int.pow_succ]
    omega
theorem accT_3 {s : ByteArray} {i : Nat} {c : Int} (h0 : 0 ≤ c) (h1 : c < 256) {j : Nat} (hj : j ≤ 3) (h : ∀ k, k < j → 0 ≤ nextB s (i + 1 + k)) : 0 ≤ accT s i c j ∧ accT s i c j < 67108864 := by
  have ⟨a, b⟩ := accT_bd h0 h1 h
  refine ⟨a, ?_⟩
  match j, hj with
  | 0, _ => omega
  | 1, _ => omega
  | 2, _ => omega
  | 3, _ => omega
/-- What stands at the end of the program's Rune. -/
def endR (r : Int) (n : Nat) : Int × Int := if r < leastT n then (0, 0) else if mayR r then (r, (n : Int)) else (0, 0)
theorem form_le (c : Nat) : 1 ≤ formT c ∧ formT c ≤ 5 := by unfold formT; split <;> (try split) <;> (try split) <;> (try split) <;> (try split) <;> omega
theorem form_1 {c : Nat} (h : formT c = 1) : c < 128 := by
  unfold formT at h
  split at h
  · assumption
  · split at h <;> (try split at h) <;> (try split at h) <;> (try split at h) <;> omega
theorem form_2 {c : Nat} (h : formT c = 2) : 192 ≤ c ∧ c < 224 := by
  unfold formT at h
  split at h
  · omega
  · split at h
    · omega
    · split at h
      · omega
      · split at h <;> (try split at h) <;> omega
theorem form_3 {c : Nat} (h : formT c = 3) : 224 ≤ c ∧ c < 240 := by
  unfold formT at h
  split at h
  · omega
  · split at h
    · omega
    · split at h
      · omega
      · split at h
        · omega
        · split at h <;> omega
theorem form_4 {c : Nat} (h : formT c = 4) : 240 ≤ c ∧ c < 248 := by
  unfold formT at h
  split at h
  · omega
  · split at h
    · omega
    · split at h
      · omega
      · split at h
        · omega
        · split at h <;> omega
theorem form_5 {c : Nat} (h : formT c = 5) : (128 ≤ c ∧ c < 192) ∨ 248 ≤ c := by
  unfold formT at h
  split at h
  · omega
  · split at h
    · omega
    · split at h
      · omega
      · split at h
        · omega
        · split at h <;> omega
theorem runeT_at {s : ByteArray} {i : Nat} (hi : i < s.size) : runeT s i = runeC s[i].toNat (nextB s (i + 1)) (nextB s (i + 2)) (nextB s (i + 3)) := by rw [runeT, dif_pos hi]
/-- No form begins so. -/
theorem rune_none {s : ByteArray} {i : Nat} (hi : i < s.size) (h : formT s[i].toNat = 5) : runeT s i = (0, 0) := by
  rw [runeT_at hi, runeC]
  have := form_5 h
  rw [if_neg (by omega), if_pos (by omega)]
/-- Some byte that is to go on does not. -/
theorem rune_cut {s : ByteArray} {i : Nat} (hi : i < s.size) {n j : Nat} (hn : n ≤ 4) (h : formT s[i].toNat = n) (hj : j + 1 < n) (hb : nextB s (i + 1 + j) < 0) : runeT s i = (0, 0) := by
  rw [runeT_at hi, runeC]
  generalize ha : nextB s (i + 1) = a
  generalize hb2 : nextB s (i + 2) = b
  generalize hd : nextB s (i + 3) = d
  match n, j, hn, hj with
  | 2, 0, _, _ =>
    have := form_2 h
    rw [show i + 1 + 0 = i + 1 from rfl, ha] at hb
    rw [if_neg (by omega)]
    split
    · rfl
    · rw [if_neg (by omega), if_neg (by omega), if_neg (by omega)]
  | 3, 0, _, _ =>
    have := form_3 h
    rw [show i + 1 + 0 = i + 1 from rfl, ha] at hb
    rw [if_neg (by omega)]
    split
    · rfl
    · rw [if_neg (by omega), if_neg (by omega), if_neg (by omega)]
  | 3, 1, _, _ =>
    have := form_3 h
    rw [show i + 1 + 1 = i + 2 from rfl, hb2] at hb
    rw [if_neg (by omega)]
    split
    · rfl
    · rw [if_neg (by omega), if_neg (by omega), if_neg (by omega)]
  | 4, 0, _, _ =>
    have := form_4 h
    rw [show i + 1 + 0 = i + 1 from rfl, ha] at hb
    rw [if_neg (by omega)]
    split
    · rfl
    · rw [if_neg (by omega), if_neg (by omega), if_neg (by omega)]
  | 4, 1, _, _ =>
    have := form_4 h
    rw [show i + 1 + 1 = i + 2 from rfl, hb2] at hb
    rw [if_neg (by omega)]
    split
    · rfl
    · rw [if_neg (by omega), if_neg (by omega), if_neg (by omega)]
  | 4, 2, _, _ =>
    have := form_4 h
    rw [show i + 1 + 2 = i + 3 from rfl, hd] at hb
    rw [if_neg (by omega)]
    split
    · rfl
    · rw [if_neg (by omega), if_neg (by omega), if_neg (by omega)]
/-- The text ends ahead of the rune's end. -/
theorem rune_short {s : ByteArray} {i : Nat} (hi : i < s.size) {n : Nat} (hn : n ≤ 4) (h : formT s[i].toNat = n) (hs : s.size < i + n) : runeT s i = (0, 0) := by
  have hf := form_le s[i].toNat
  refine rune_cut (j := n - 2) hi hn h (by omega) ?_
  unfold nextB
  rw [dif_neg (by omega)]
  omega
/-- All bytes of the form are there. -/
theorem rune_end {s : ByteArray} {i : Nat} (hi : i < s.size) {n : Nat} (hn : n ≤ 4) (h : formT s[i].toNat = n) (hg : ∀ j, j < n - 1 → 0 ≤ nextB s (i + 1 + j)) : runeT s i = endR (accT s i ((s[i].toNat : Int) - headT n) (n - 1)) n := by
  have hf := form_le s[i].toNat
  have hc := s[i].toNat_lt
  rw [runeT_at hi]
  have B1 := nextB_bd s (i + 1); have B2 := nextB_bd s (i + 2); have B3 := nextB_bd s (i + 3)
  match n, hn, h with
  | 0, _, h => omega
  | 1, _, h =>
    have h1 := form_1 h
    have e : mayR (s[i].toNat : Int) = true := by simp [mayR]; omega
    have ea : accT s i ((s[i].toNat : Int) - headT 1) (1 - 1) = (s[i].toNat : Int) := by simp [accT, headT]
    rw [ea, runeC, endR, leastT, if_pos (by omega), if_neg (by omega), e]
    · rfl
    all_goals (intro h; cases h)
  | 2, _, h =>
    have h2 := form_2 h
    have g0 := hg 0 (by omega)
    rw [show i + 1 + 0 = i + 1 from rfl] at g0
    have ea : accT s i ((s[i].toNat : Int) - headT 2) (2 - 1) = ((s[i].toNat : Int) - 192) * 64 + nextB s (i + 1) := rfl
    rw [ea]
    generalize nextB s (i + 1) = a at *
    by_cases h3 : (s[i].toNat : Int) < 194
    · rw [runeC, if_neg (by omega), if_pos (by omega), endR, leastT, if_pos (by omega)]
    · have e : mayR (((s[i].toNat : Int) - 192) * 64 + a) = true := by simp [mayR]; omega
      rw [runeC, if_neg (by omega), if_neg (by omega), if_pos (by omega), endR, leastT, if_neg (by omega), e]
      rfl
  | 3, _, h =>
    have h2 := form_3 h
    have g0 := hg 0 (by omega)
    have g1 := hg 1 (by omega)
    rw [show i + 1 + 0 = i + 1 from rfl] at g0
    rw [show i + 1 + 1 = i + 2 from rfl] at g1
    have ea : accT s i ((s[i].toNat : Int) - headT 3) (3 - 1) = (((s[i].toNat : Int) - 224) * 64 + nextB s (i + 1)) * 64 + nextB s (i + 2) := rfl
    rw [ea]
    generalize nextB s (i + 1) = a at *
    generalize nextB s (i + 2) = b at *
    rw [runeC, if_neg (by omega), if_neg (by omega), if_neg (by omega), if_pos (by omega), show ((s[i].toNat : Int) - 224) * 4096 + a * 64 + b = (((s[i].toNat : Int) - 224) * 64 + a) * 64 + b by omega]
    generalize hr : (((s[i].toNat : Int) - 224) * 64 + a) * 64 + b = r
    rw [endR, leastT]
    by_cases h3 : r < 2048
    · rw [if_neg (by omega), if_pos h3]
    · rw [if_neg h3]
      by_cases h4 : r < 55296 ∨ 57343 < r
      · have e : mayR r = true := by simp [mayR]; omega
        rw [if_pos (by omega), e]
        rfl
      · have e : mayR r = false := by simp [mayR]; omega
        rw [if_neg (by omega), e]
        rfl
  | 4, _, h =>
    have h2 := form_4 h
    have g0 := hg 0 (by omega)
    have g1 := hg 1 (by omega)
    have g2 := hg 2 (by omega)
    rw [show i + 1 + 0 = i + 1 from rfl] at g0
    rw [show i + 1 + 1 = i + 2 from rfl] at g1
    rw [show i + 1 + 2 = i + 3 from rfl] at g2
    have ea : accT s i ((s[i].toNat : Int) - headT 4) (4 - 1) = ((((s[i].toNat : Int) - 240) * 64 + nextB s (i + 1)) * 64 + nextB s (i + 2)) * 64 + nextB s (i + 3) := rfl
    rw [ea]
    generalize nextB s (i + 1) = a at *
    generalize nextB s (i + 2) = b at *
    generalize nextB s (i + 3) = d at *
    by_cases h5 : 244 < (s[i].toNat : Int)
    · have e : mayR (((((s[i].toNat : Int) - 240) * 64 + a) * 64 + b) * 64 + d) = false := by simp [mayR]; omega
      rw [runeC, if_neg (by omega), if_pos (by omega), endR, e]
      simp
    rw [runeC, if_neg (by omega), if_neg (by omega), if_neg (by omega), if_neg (by omega), if_pos (by omega), show ((s[i].toNat : Int) - 240) * 262144 + a * 4096 + b * 64 + d = ((((s[i].toNat : Int) - 240) * 64 + a) * 64 + b) * 64 + d by omega]
    generalize hr : ((((s[i].toNat : Int) - 240) * 64 + a) * 64 + b) * 64 + d = r
    rw [endR, leastT]
    by_cases h3 : r < 65536
    · rw [if_neg (by omega), if_pos h3]
    · rw [if_neg h3]
      by_cases h4 : r ≤ 1114111
      · have e : mayR r = true := by simp [mayR]; omega
        rw [if_pos (by omega), e]
        rfl
      · have e : mayR r = false := by simp [mayR]; omega
        rw [if_neg (by omega), e]
        rfl
end Go.Proofs.YtoibfefalflooaaDoor
