/-
  Plain facts for the law SchemaNames: the name that it makes of two numbers, and what New, Add and Rename answer of it.
-/
import Derived.Test.YtfojdjmeefglcaaDoorN
import Derived.Laws.OwnMore
namespace Go.Proofs.YtfojdjmeefglcaaDoor
open Go.RowKit

theorem and31 (x : Int) : bits .and .i64 x 31 = x % 32 := by
  show IntKind.i64.wrap ((BitVec.ofInt 64 x &&& BitVec.ofInt 64 31).toNat : Int) = _
  have h31 : (BitVec.ofInt 64 31).toNat = 2 ^ 5 - 1 := by decide
  rw [BitVec.toNat_and, h31, Nat.and_two_pow_sub_one_eq_mod, BitVec.toNat_ofInt, IntKind.wrap_i64]
  omega

/-- The bytes that SchemaNames makes: m letters q, the first of them turned to x. -/
def wordL (x : UInt8) : Nat → List UInt8
  | 0 => []
  | m + 1 => x :: List.replicate m 113
def word (x : UInt8) (m : Nat) : ByteArray := str (wordL x m)
theorem wordL_length (x : UInt8) (m : Nat) : (wordL x m).length = m := by cases m <;> simp [wordL]
def fineX (x : Nat) : Bool := (decide (97 ≤ x) && decide (x ≤ 122) || decide (48 ≤ x) && decide (x ≤ 57)) || decide (x = 95)
def fineB (x m : Nat) : Bool := decide (1 ≤ m) && decide (m ≤ 16) && fineX x

theorem set_fine : ∀ n, n < 256 → nameSet.contains (UInt8.ofNat n) = fineX n := by decide +kernel
theorem nameB_word (x m : Nat) (hx : x < 256) : nameB (word (UInt8.ofNat x) m) = fineB x m := by
  have hs : (word (UInt8.ofNat x) m).size = m := by
    show (wordL (UInt8.ofNat x) m).toArray.size = m
    rw [List.size_toArray, wordL_length]
  have hd : (word (UInt8.ofNat x) m).data.toList = wordL (UInt8.ofNat x) m := rfl
  have h1 : nameSet.contains 113 = true := by decide
  unfold nameB fineB
  rw [hs, hd]
  cases m with
  | zero => rfl
  | succ m =>
    have hr : (List.replicate m (113 : UInt8)).all (nameSet.contains ·) = true := by
      rw [List.all_eq_true]
      intro y hy
      rw [List.eq_of_mem_replicate hy]
      exact h1
    rw [wordL, List.all_cons, hr, Bool.and_true, set_fine x hx]

def sn0 : Sch := ⟨0, [⟨1, str [97], 1⟩], 2⟩
theorem sn_a : newR [str [97]] [1] = (sn0, 0) := by kernel_rfl
theorem toList_str (l : List UInt8) : (str l).toList = l := by
  show ByteArray.toList ⟨l.toArray⟩ = l
  rw [ByteArray.toList_eq]
theorem mayB_one (w : ByteArray) : mayB ⟨0, [⟨1, w, 1⟩], 2⟩ = nameB w := by
  have h : kindB 1 = true := by decide
  simp [mayB, headOk, okUpto, okAt, colOk, h]
/-- New of one name: taken exactly if the name may stand. -/
theorem sn_new (w : ByteArray) : ∃ s n, newR [w] [1] = (s, n) ∧ (n == 0) = nameB w ∧ mayB s = nameB w ∧ s.cols.length ≤ 1 ∧ ∀ c ∈ s.cols, c.name = w := by
  have hm := mayB_one w
  have h : newR [w] [1] = nextR ⟨0, [⟨1, w, 1⟩], 2⟩ := by simp [newR, newCols]
  rw [h, nextR]
  cases hw : nameB w with
  | true => rw [hw] at hm; rw [if_pos hm]; exact ⟨_, _, rfl, rfl, hm, Nat.le_refl _, by simp⟩
  | false => rw [hw] at hm; rw [if_neg (by rw [hm]; decide)]; exact ⟨_, _, rfl, rfl, by decide, by decide, by simp [Sch.zero]⟩
theorem mayB_two (w : ByteArray) (h1 : nameB w = true) (h2 : (w.toList == [97]) = false) : mayB ⟨1, [⟨1, str [97], 1⟩, ⟨2, w, 3⟩], 3⟩ = true := by
  have k1 : kindB 1 = true := by decide
  have k3 : kindB 3 = true := by decide
  have k5 : nameB (str [97]) = true := by decide
  have h3 : ([97] == w.toList) = false := by
    rw [beq_eq_false_iff_ne] at h2 ⊢
    exact fun h => h2 h.symm
  simp [mayB, headOk, okUpto, okAt, colOk, k1, k3, k5, h1, clash, toList_str, h3]
theorem sn_add (w : ByteArray) : ∃ s n, addR sn0 w 3 = (s, n) ∧ (n == 0) = (nameB w && !(w.toList == [97])) ∧ s.cols.length ≤ 2 ∧ ∀ c ∈ s.cols, c.name = w ∨ c.name = str [97] := by
  have hm : mayB sn0 = true := by kernel_rfl
  have hk : kindB 3 = true := by decide
  unfold addR
  rw [if_neg (by rw [hm]; decide)]
  cases hw : nameB w with
  | false => rw [if_pos rfl]; exact ⟨_, _, rfl, by simp, by decide, by simp [Sch.zero]⟩
  | true =>
    rw [if_neg (by decide)]
    cases ha : (w.toList == [97]) with
    | true =>
      have hl : w.toList = [97] := by simpa using ha
      rw [if_pos (by simp [idx, sn0, named, toList_str, hl])]
      exact ⟨_, _, rfl, by simp, by decide, by simp [Sch.zero]⟩
    | false =>
      have hl : ¬ w.toList = [97] := by simpa using ha
      have hl' : ([97] == w.toList) = false := by
        rw [beq_eq_false_iff_ne]
        exact fun h => hl h.symm
      rw [if_neg (by simp [idx, sn0, named, toList_str, hl']), if_neg (by rw [hk]; decide), if_neg (by decide), nextR]
      have hm2 := mayB_two w hw ha
      rw [if_pos (by simpa [sn0] using hm2)]
      exact ⟨_, _, rfl, by simp, by simp [sn0], by intro c hc; simp [sn0] at hc; rcases hc with rfl | rfl; exact Or.inr rfl; exact Or.inl rfl⟩
theorem mayB_three (w : ByteArray) (h1 : nameB w = true) : mayB ⟨1, [⟨1, w, 1⟩], 2⟩ = true := by
  have k1 : kindB 1 = true := by decide
  simp [mayB, headOk, okUpto, okAt, colOk, k1, h1]
theorem sn_ren (w : ByteArray) : ∃ s n, renameR sn0 (str [97]) w = (s, n) ∧ (n == 0) = nameB w ∧ s.cols.length ≤ 1 ∧ ∀ c ∈ s.cols, c.name = w := by
  have hm : mayB sn0 = true := by kernel_rfl
  have hi : idx (named (str [97])) sn0.cols = 0 := by kernel_rfl
  have hf : sn0.cols.findIdx (named (str [97])) = 0 := by kernel_rfl
  unfold renameR
  rw [if_neg (by rw [hm]; decide), hi, if_neg (by decide)]
  cases hw : nameB w with
  | false => rw [if_pos rfl]; exact ⟨_, _, rfl, by simp, by decide, by simp [Sch.zero]⟩
  | true =>
    have hx := idx_bd (named w) sn0.cols
    have hx2 : sn0.cols.length = 1 := rfl
    rw [if_neg (by decide), if_neg (by omega), hf, nextR]
    have hm2 := mayB_three w hw
    rw [if_pos (by simpa [sn0, setName] using hm2)]
    exact ⟨_, _, rfl, by simp, by simp [sn0, setName], by intro c hc; simp [sn0, setName] at hc; rw [hc]⟩
end Go.Proofs.YtfojdjmeefglcaaDoor
