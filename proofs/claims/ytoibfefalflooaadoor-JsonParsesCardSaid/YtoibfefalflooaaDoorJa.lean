/-
  A text as JSON: plain.
-/
import Derived.Test.YtoibfefalflooaaDoorYu
namespace Go.Proofs.YtoibfefalflooaaDoor
open Go.RowKit

/-- A JSON value: kind, truth, number, text, a list's values, an object's keys. -/
inductive J where
  | mk (k : Int) (b : Bool) (n : Int) (s : ByteArray) (l : List J) (ks : List ByteArray)
def J.k : J → Int | .mk k _ _ _ _ _ => k
def J.b : J → Bool | .mk _ b _ _ _ _ => b
def J.n : J → Int | .mk _ _ n _ _ _ => n
def J.s : J → ByteArray | .mk _ _ _ s _ _ => s
def J.l : J → List J | .mk _ _ _ _ l _ => l
def J.ks : J → List ByteArray | .mk _ _ _ _ _ ks => ks
def J.zero : J := .mk 0 false 0 ⟨#[]⟩ [] []

def ofL (l : List UInt8) : ByteArray := ⟨l.toArray⟩
theorem ofL_size (l : List UInt8) : (ofL l).size = l.length := by simp [ofL, ByteArray.size]
theorem ofL_list (l : List UInt8) : (ofL l).data.toList = l := by simp [ofL]
theorem ofL_app (a b : List UInt8) : ofL a ++ ofL b = ofL (a ++ b) := by
  apply ByteArray.ext
  simp [ofL]

/-- The byte at a place; 0 behind the end. -/
def bA (s : ByteArray) (i : Nat) : Nat := if h : i < s.size then s[i].toNat else 0
def isW (c : Nat) : Bool := c == 32 || c == 9 || c == 10 || c == 13
def isD (c : Nat) : Bool := decide (48 ≤ c) && decide (c ≤ 57)
def whiteN (s : ByteArray) : Nat → Nat → Nat
  | 0, i => i
  | f + 1, i => if isW (bA s i) then whiteN s f (i + 1) else i
/-- The first place from here on that is not white. -/
def whiteE (s : ByteArray) (i : Nat) : Nat := whiteN s (s.size - i) i
def wordB (s : ByteArray) : Nat → List UInt8 → Bool
  | _, [] => true
  | i, c :: r => (if h : i < s.size then s[i] == c else false) && wordB s (i + 1) r
def digN (s : ByteArray) : Nat → Nat → Nat → Option (Nat × Nat)
  | 0, i, x => some (x, i)
  | f + 1, i, x => if isD (bA s i) then (if 1152921504606846976 < x then none else digN s f (i + 1) (10 * x + (bA s i - 48))) else some (x, i)
def numE (m : Bool) (i1 c1 x i2 : Nat) : Option (Int × Nat) :=
  if i2 = i1 ∨ (1 < i2 - i1 ∧ c1 = 48) ∨ (m = true ∧ x = 0) then none else if m = true ∧ x ≤ 9223372036854775808 then some (-(x : Int), i2) else if x < 9223372036854775808 then some ((x : Int), i2) else none
/-- A number, and the place behind it. -/
def numP (s : ByteArray) (i : Nat) : Option (Int × Nat) :=
  if bA s i = 45 then (match digN s (s.size - (i + 1)) (i + 1) 0 with | none => none | some (x, i2) => numE true (i + 1) (bA s (i + 1)) x i2)
  else (match digN s (s.size - i) i 0 with | none => none | some (x, i2) => numE false i (bA s i) x i2)
def hexV (c : Nat) : Option Nat := if isD c then some (c - 48) else if 97 ≤ c ∧ c ≤ 102 then some (c - 87) else if 65 ≤ c ∧ c ≤ 70 then some (c - 55) else none
def hexN (s : ByteArray) : Nat → Nat → Nat → Option Nat
  | 0, _, x => some x
  | f + 1, i, x => match hexV (bA s i) with | none => none | some d => hexN s f (i + 1) (16 * x + d)
def hexP (s : ByteArray) (i : Nat) : Option Nat := hexN s 4 i 0
/-- A rune's bytes. -/
def putR (r : Int) : Option (List UInt8) :=
  if r < 0 ∨ 1114111 < r ∨ (55296 ≤ r ∧ r ≤ 57343) then none
  else if r < 128 then some [UInt8.ofNat r.toNat]
  else if r < 2048 then some [UInt8.ofNat (192 + r.toNat / 64), UInt8.ofNat (128 + r.toNat % 64)]
  else if r < 65536 then some [UInt8.ofNat (224 + r.toNat / 4096), UInt8.ofNat (128 + r.toNat / 64 % 64), UInt8.ofNat (128 + r.toNat % 64)]
  else some [UInt8.ofNat (240 + r.toNat / 262144), UInt8.ofNat (128 + r.toNat / 4096 % 64), UInt8.ofNat (128 + r.toNat / 64 % 64), UInt8.ofNat (128 + r.toNat % 64)]
def uniP (s : ByteArray) (i : Nat) : Option (List UInt8 × Nat) :=
  match hexP s i with
  | none => none
  | some r =>
    if 55296 ≤ r ∧ r < 56320 then
      (if wordB s (i + 4) [92, 117] then
        (match hexP s (i + 6) with
         | none => none
         | some low => if low < 56320 ∨ 57343 < low then none else (putR (65536 + (r - 55296) * 1024 + low - 56320)).map fun l => (l, i + 10))
       else none)
    else (putR r).map fun l => (l, i + 4)
/-- What stands behind a stroke. -/
def escP (s : ByteArray) (i : Nat) : Option (List UInt8 × Nat) :=
  if bA s i = 34 ∨ bA s i = 92 ∨ bA s i = 47 then some ([UInt8.ofNat (bA s i)], i + 1)
  else if bA s i = 98 then some ([8], i + 1)
  else if bA s i = 102 then some ([12], i + 1)
  else if bA s i = 110 then some ([10], i + 1)
  else if bA s i = 114 then some ([13], i + 1)
  else if bA s i = 116 then some ([9], i + 1)
  else if bA s i = 117 then uniP s (i + 1)
  else none
def textN (s : ByteArray) : Nat → Nat → List UInt8 → Option (List UInt8 × Nat)
  | 0, _, _ => none
  | f + 1, i, out =>
    if bA s i = 34 then some (out, i + 1)
    else if bA s i = 92 then (match escP s (i + 1) with | none => none | some (l, j) => textN s f j (out ++ l))
    else if (runeT s i).2 = 0 ∨ (runeT s i).1 < 32 then none
    else textN s f (i + (runeT s i).2.toNat) (out ++ (s.data.toList.drop i).take (runeT s i).2.toNat)
/-- A text, and the place behind it. -/
def textP (s : ByteArray) (i : Nat) : Option (ByteArray × Nat) :=
  if bA s i = 34 then (match textN s (s.size + 1) (i + 1) [] with | none => none | some (l, j) => some (ofL l, j)) else none
/-- A list's values, or an object's, up to its end. -/
def elemsP (val : Nat → Except Int (J × Nat)) (s : ByteArray) (obj : Bool) : Nat → Nat → Bool → List J → List ByteArray → Except Int (List J × List ByteArray × Nat)
  | 0, _, _, _, _ => .error 300
  | f + 1, i, first, l, ks =>
    if bA s i = (if obj then 125 else 93) then .ok (l, ks, i + 1)
    else if first = false ∧ bA s i ≠ 44 then .error 300
    else
      let i0 := if first then i else whiteE s (i + 1)
      if obj then
        (match textP s i0 with
         | none => .error 300
         | some (k, i1) =>
           if ks.contains k then .error 300
           else if bA s (whiteE s i1) ≠ 58 then .error 300
           else (match val (whiteE s (whiteE s i1 + 1)) with
                 | .error e => .error e
                 | .ok (j, i4) => elemsP val s obj f (whiteE s i4) false (l ++ [j]) (ks ++ [k])))
      else
        (match val i0 with
         | .error e => .error e
         | .ok (j, i4) => elemsP val s obj f (whiteE s i4) false (l ++ [j]) ks)
def leafP (s : ByteArray) (i : Nat) : Except Int (J × Nat) :=
  if bA s i = 110 then (if wordB s i [110, 117, 108, 108] then .ok (J.zero, i + 4) else .error 300)
  else if bA s i = 116 then (if wordB s i [116, 114, 117, 101] then .ok (.mk 1 true 0 ⟨#[]⟩ [] [], i + 4) else .error 300)
  else if bA s i = 102 then (if wordB s i [102, 97, 108, 115, 101] then .ok (.mk 1 false 0 ⟨#[]⟩ [] [], i + 5) else .error 300)
  else if bA s i = 34 then (match textP s i with | none => .error 300 | some (t, j) => .ok (.mk 3 false 0 t [] [], j))
  else (match numP s i with | none => .error 300 | some (x, j) => .ok (.mk 2 false x ⟨#[]⟩ [] [], j))
/-- A value; so many lists and objects may still be opened. -/
def valP (s : ByteArray) : Nat → Nat → Except Int (J × Nat)
  | 0, i => if bA s i = 91 ∨ bA s i = 123 then .error 301 else leafP s i
  | d + 1, i =>
    if bA s i = 91 ∨ bA s i = 123 then
      (match elemsP (valP s d) s (decide (bA s i = 123)) (s.size + 1) (whiteE s (i + 1)) true [] [] with
       | .error e => .error e
       | .ok (l, ks, j) => .ok (.mk (if bA s i = 123 then 5 else 4) false 0 ⟨#[]⟩ l ks, j))
    else leafP s i
def parseP (s : ByteArray) : J × Int :=
  if 65536 < s.size then (J.zero, 302)
  else match valP s 16 (whiteE s 0) with
    | .error e => (J.zero, e)
    | .ok (j, i) => if whiteE s i = s.size then (j, 0) else (J.zero, 300)

theorem bA_lt {s : ByteArray} {i : Nat} (h : bA s i ≠ 0) : i < s.size := by
  unfold bA at h
  split at h
  · assumption
  · exact absurd rfl h
theorem bA_at {s : ByteArray} {i : Nat} (h : i < s.size) : bA s i = s[i].toNat := by rw [bA, dif_pos h]
theorem bA_end {s : ByteArray} {i : Nat} (h : s.size ≤ i) : bA s i = 0 := by rw [bA, dif_neg (by omega)]
theorem bA_bd (s : ByteArray) (i : Nat) : bA s i < 256 := by
  unfold bA
  split
  · exact s[i].toNat_lt
  · omega
theorem isW_lt {s : ByteArray} {i : Nat} (h : isW (bA s i) = true) : i < s.size := bA_lt (by rintro e; rw [e] at h; cases h)
theorem isD_lt {s : ByteArray} {i : Nat} (h : isD (bA s i) = true) : i < s.size := bA_lt (by rintro e; rw [e] at h; cases h)
theorem white_yes {s : ByteArray} {i : Nat} (h : isW (bA s i) = true) : whiteE s i = whiteE s (i + 1) := by
  have hi := isW_lt h
  unfold whiteE
  rw [show s.size - i = s.size - (i + 1) + 1 by omega, whiteN, if_pos h]
theorem white_no {s : ByteArray} {i : Nat} (h : isW (bA s i) = false) : whiteE s i = i := by
  unfold whiteE
  cases s.size - i with
  | zero => rfl
  | succ f => rw [whiteN, if_neg (by rw [h]; simp)]
theorem whiteN_bd (s : ByteArray) : ∀ (f i : Nat), f + i ≤ s.size → i ≤ whiteN s f i ∧ whiteN s f i ≤ s.size
  | 0, i, h => ⟨Nat.le_refl _, by show i ≤ _; omega⟩
  | f + 1, i, h => by
    rw [whiteN]
    split
    · have := whiteN_bd s f (i + 1) (by omega); omega
    · omega
theorem white_bd {s : ByteArray} {i : Nat} (h : i ≤ s.size) : i ≤ whiteE s i ∧ whiteE s i ≤ s.size := whiteN_bd s _ i (by omega)
theorem white_ge (s : ByteArray) (i : Nat) : i ≤ whiteE s i := by
  by_cases h : i ≤ s.size
  · exact (white_bd h).1
  · unfold whiteE; rw [show s.size - i = 0 by omega]; exact Nat.le_refl _
end Go.Proofs.YtoibfefalflooaaDoor
