/-
  Numbers as JSON: plain.
-/
import Derived.Test.YtoibfefalflooaaDoorJ7
import Derived.Test.YtoibfefalflooaaDoorJw
namespace Go.Proofs.YtoibfefalflooaaDoor
open Go.RowKit

def nJ (x : Int) : J := .mk 2 false x ⟨#[]⟩ [] []
theorem itoa_hd (x : Int) : hd0 (Go.Lib.itoa x) = 45 ∨ (48 ≤ hd0 (Go.Lib.itoa x) ∧ hd0 (Go.Lib.itoa x) ≤ 57) := by
  unfold Go.Lib.itoa
  split
  · exact .inl rfl
  · obtain ⟨c, q, hc, _⟩ := dec_cons x.toNat
    have := dec_digs x.toNat c (by rw [hc]; simp)
    rw [hc]
    exact .inr this
theorem itoa_pos (x : Int) : 0 < (Go.Lib.itoa x).length := by
  cases h : Go.Lib.itoa x with
  | nil => have := itoa_hd x; rw [h] at this; simp [hd0] at this
  | cons c r => simp
theorem hd0_app {a b : List UInt8} (h : 0 < a.length) : hd0 (a ++ b) = hd0 a := by
  cases a with
  | nil => simp at h
  | cons c r => rfl
theorem n_print {x : Int} (h0 : -9223372036854775808 ≤ x) (h1 : x ≤ 9223372036854775807) : printP (nJ x) = (ofL (Go.Lib.itoa x), 0) := by
  have hl := itoa_len h0 h1
  unfold printP nJ
  rw [prV, if_neg (by decide), if_neg (by decide), if_pos rfl, addE_ok (by simp only [List.length_nil]; omega)]
  rfl
theorem leaf_num {s : ByteArray} {i : Nat} (h : bA s i ≠ 110 ∧ bA s i ≠ 116 ∧ bA s i ≠ 102 ∧ bA s i ≠ 34) : leafP s i = (match numP s i with | none => .error 300 | some (x, j) => .ok (.mk 2 false x ⟨#[]⟩ [] [], j)) := by
  rw [leafP, if_neg h.1, if_neg h.2.1, if_neg h.2.2.1, if_neg h.2.2.2]
  cases numP s i <;> rfl
theorem val_leafP {s : ByteArray} {d i : Nat} (h : bA s i ≠ 91 ∧ bA s i ≠ 123) : valP s d i = leafP s i := by
  cases d with
  | zero => rw [valP, if_neg (by omega)]
  | succ d => rw [valP, if_neg (by omega)]
theorem white_hd {s : ByteArray} {i : Nat} {l : List UInt8} (h : Suf s i l) (hw : isW (hd0 l) = false) : whiteE s i = i := white_no (by rw [h.hd]; exact hw)
theorem parse_at {l : List UInt8} (hl : l.length ≤ 65536) (hw : isW (hd0 l) = false) : parseP (ofL l) = match valP (ofL l) 16 0 with | .error e => (J.zero, e) | .ok (j, i) => if whiteE (ofL l) i = (ofL l).size then (j, 0) else (J.zero, 300) := by
  rw [parseP, if_neg (by rw [ofL_size]; omega), white_hd (suf_of l) hw]
  cases valP (ofL l) 16 0 <;> rfl
theorem notW {c : Nat} (h : c = 45 ∨ (48 ≤ c ∧ c ≤ 57)) : isW c = false := by
  simp [isW]
  omega
theorem val_num {s : ByteArray} {d i : Nat} {x : Int} {r : List UInt8} (h : Suf s i (Go.Lib.itoa x ++ r)) (hr : isD (hd0 r) = false) (h0 : -9223372036854775808 ≤ x) (h1 : x ≤ 9223372036854775807) : valP s d i = .ok (nJ x, i + (Go.Lib.itoa x).length) := by
  have hb := h.hd
  rw [hd0_app (itoa_pos x)] at hb
  have hh := itoa_hd x
  rw [val_leafP (by omega), leaf_num (by omega), num_back h hr h0 h1]
  rfl
theorem n_parse {x : Int} (h0 : -9223372036854775808 ≤ x) (h1 : x ≤ 9223372036854775807) : parseP (ofL (Go.Lib.itoa x)) = (nJ x, 0) := by
  have hl := itoa_len h0 h1
  have hs : Suf (ofL (Go.Lib.itoa x)) 0 (Go.Lib.itoa x ++ []) := by rw [List.append_nil]; exact suf_of _
  rw [parse_at (by omega) (notW (itoa_hd x)), val_num hs rfl h0 h1]
  have he := hs.app
  simp only [if_pos ((white_hd he rfl).trans he.nil.2)]
theorem n_rest {x : Int} (h0 : -9223372036854775808 ≤ x) (h1 : x ≤ 9223372036854775807) {c : UInt8} {q : List UInt8} (hq : q.length ≤ 10) (hd : isD c.toNat = false) (hw : isW c.toNat = false) : (parseP (ofL (Go.Lib.itoa x ++ c :: q))).2 = 300 := by
  have hl := itoa_len h0 h1
  have hs : Suf (ofL (Go.Lib.itoa x ++ c :: q)) 0 (Go.Lib.itoa x ++ c :: q) := suf_of _
  rw [parse_at (by rw [List.length_append, List.length_cons]; omega) (by rw [hd0_app (itoa_pos x)]; exact notW (itoa_hd x)), val_num hs hd h0 h1]
  have he := hs.app
  have hle := he.le
  rw [List.length_cons] at hle
  simp only [white_hd he hw]
  rw [if_neg (by omega)]
theorem n_plus {x : Int} (h0 : -9223372036854775808 ≤ x) (h1 : x ≤ 9223372036854775807) : (parseP (ofL (43 :: Go.Lib.itoa x))).2 = 300 := by
  have hl := itoa_len h0 h1
  have hs : Suf (ofL (43 :: Go.Lib.itoa x)) 0 (43 :: Go.Lib.itoa x) := suf_of _
  have hb : bA (ofL (43 :: Go.Lib.itoa x)) 0 = 43 := hs.hd
  rw [parse_at (by rw [List.length_cons]; omega) rfl, val_leafP (by omega), leaf_num (by omega)]
  have : numP (ofL (43 :: Go.Lib.itoa x)) 0 = none := by
    rw [numP, if_neg (by omega), ofL_size, List.length_cons, Nat.sub_zero, digN, hb, if_neg (by decide)]
    show numE false 0 _ 0 0 = none
    rw [numE, if_pos (.inl rfl)]
  rw [this]
theorem n_zero {x : Int} (h0 : -9223372036854775808 ≤ x) (h1 : x ≤ 9223372036854775807) : (parseP (ofL (48 :: Go.Lib.itoa x))).2 = 300 := by
  have hl := itoa_len h0 h1
  have hs : Suf (ofL (48 :: Go.Lib.itoa x)) 0 (48 :: Go.Lib.itoa x) := suf_of _
  have hb : bA (ofL (48 :: Go.Lib.itoa x)) 0 = 48 := hs.hd
  rw [parse_at (by rw [List.length_cons]; omega) rfl, val_leafP (by omega), leaf_num (by omega)]
  by_cases hx : x < 0
  · have hi : Go.Lib.itoa x = 45 :: Go.Lib.decDigits x.natAbs := by unfold Go.Lib.itoa; rw [if_pos hx]
    rw [hi] at hs hb ⊢
    have hn : numP (ofL (48 :: 45 :: Go.Lib.decDigits x.natAbs)) 0 = some (0, 1) := by
      rw [numP, if_neg (by omega), digN_back [48] (45 :: Go.Lib.decDigits x.natAbs) _ 0 0 hs (fun c hc => by rw [List.mem_singleton] at hc; subst hc; decide) rfl (by rw [ofL_size]; simp) (Nat.le_refl _) (by decide)]
      show numE false 0 _ 0 1 = _
      rw [numE_ok (by decide) (by omega) (by decide), if_neg (by decide), if_pos (by decide)]
      rfl
    rw [hn]
    have he := (Suf.head hs).2
    have hle := he.le
    rw [List.length_cons] at hle
    show (if whiteE _ 1 = _ then (_, 0) else (J.zero, (300 : Int))).2 = 300
    rw [white_hd he rfl, if_neg (by omega)]
  · have hi : Go.Lib.itoa x = Go.Lib.decDigits x.toNat := by unfold Go.Lib.itoa; rw [if_neg hx]
    rw [hi] at hs hb ⊢
    obtain ⟨c, q, hc, _⟩ := dec_cons x.toNat
    have hn : numP (ofL (48 :: Go.Lib.decDigits x.toNat)) 0 = none := by
      have hs2 : Suf (ofL (48 :: Go.Lib.decDigits x.toNat)) 0 ((48 :: Go.Lib.decDigits x.toNat) ++ []) := by rw [List.append_nil]; exact hs
      have hv : valD 0 (48 :: Go.Lib.decDigits x.toNat) = x.toNat := dec_val _
      rw [numP, if_neg (by omega), digN_back (48 :: Go.Lib.decDigits x.toNat) [] _ 0 0 hs2 (fun c hc => by
        rcases List.mem_cons.1 hc with rfl | hc
        · decide
        · exact dec_digs _ c hc) rfl (by rw [ofL_size]; exact Nat.le_refl _) (Nat.le_refl _) (by rw [hv]; omega), hv]
      show numE false 0 _ _ (0 + (48 :: Go.Lib.decDigits x.toNat).length) = none
      rw [numE, if_pos (.inr (.inl ⟨by rw [hc]; simp only [List.length_cons]; omega, hb⟩))]
    rw [hn]
/-- The texts that are none. -/
def nBad (S : ByteArray) : List ByteArray := [S ++ ⟨#[46, 48]⟩, S ++ ⟨#[101, 49]⟩, ⟨#[48]⟩ ++ S, ⟨#[43]⟩ ++ S, S ++ ⟨#[120]⟩, ⟨#[45, 48]⟩, ⟨#[48, 48]⟩, ⟨#[45]⟩,
  ⟨#[57, 50, 50, 51, 51, 55, 50, 48, 51, 54, 56, 53, 52, 55, 55, 53, 56, 48, 56]⟩, ⟨#[45, 57, 50, 50, 51, 51, 55, 50, 48, 51, 54, 56, 53, 52, 55, 55, 53, 56, 48, 57]⟩, ⟨#[49, 95, 48]⟩, ⟨#[46, 53]⟩]
theorem n_bad {x : Int} (h0 : -9223372036854775808 ≤ x) (h1 : x ≤ 9223372036854775807) : ∀ t ∈ nBad (ofL (Go.Lib.itoa x)), (parseP t).2 = 300 := by
  intro t ht
  simp only [nBad, List.mem_cons, List.not_mem_nil, or_false] at ht
  rcases ht with rfl | rfl | rfl | rfl | rfl | rfl | rfl | rfl | rfl | rfl | rfl | rfl
  · rw [show (⟨#[46, 48]⟩ : ByteArray) = ofL [46, 48] from rfl, ofL_app]; exact n_rest h0 h1 (by decide) (by decide) (by decide)
  · rw [show (⟨#[101, 49]⟩ : ByteArray) = ofL [101, 49] from rfl, ofL_app]; exact n_rest h0 h1 (by decide) (by decide) (by decide)
  · rw [show (⟨#[48]⟩ : ByteArray) = ofL [48] from rfl, ofL_app]; exact n_zero h0 h1
  · rw [show (⟨#[43]⟩ : ByteArray) = ofL [43] from rfl, ofL_app]; exact n_plus h0 h1
  · rw [show (⟨#[120]⟩ : ByteArray) = ofL [120] from rfl, ofL_app]; exact n_rest h0 h1 (by decide) (by decide) (by decide)
  · kernel_rfl
  · kernel_rfl
  · kernel_rfl
  · kernel_rfl
  · kernel_rfl
  · kernel_rfl
  · kernel_rfl
theorem n_size {x : Int} (h0 : -9223372036854775808 ≤ x) (h1 : x ≤ 9223372036854775807) : ∀ t ∈ nBad (ofL (Go.Lib.itoa x)), t.size ≤ 65536 := by
  have hl := itoa_len h0 h1
  intro t ht
  simp only [nBad, List.mem_cons, List.not_mem_nil, or_false] at ht
  rcases ht with rfl | rfl | rfl | rfl | rfl | rfl | rfl | rfl | rfl | rfl | rfl | rfl
  · rw [ByteArray.size_append, ofL_size]; show _ + 2 ≤ _; omega
  · rw [ByteArray.size_append, ofL_size]; show _ + 2 ≤ _; omega
  · rw [ByteArray.size_append, ofL_size]; show 1 + _ ≤ _; omega
  · rw [ByteArray.size_append, ofL_size]; show 1 + _ ≤ _; omega
  · rw [ByteArray.size_append, ofL_size]; show _ + 1 ≤ _; omega
  all_goals decide
end Go.Proofs.YtoibfefalflooaaDoor
