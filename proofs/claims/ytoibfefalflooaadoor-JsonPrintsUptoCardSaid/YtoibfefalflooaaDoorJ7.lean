/-
  What is printed is parsed: numbers, plain.
-/
import Derived.Test.YtoibfefalflooaaDoorJ2
namespace Go.Proofs.YtoibfefalflooaaDoor
open Go.RowKit

/-- From a place on the text is l. -/
def Suf (s : ByteArray) (i : Nat) (l : List UInt8) : Prop := s.data.toList.drop i = l ∧ i ≤ s.size
theorem Suf.le {s : ByteArray} {i : Nat} {l : List UInt8} (h : Suf s i l) : i + l.length = s.size := by
  have := congrArg List.length h.1
  rw [List.length_drop] at this
  have h2 := h.2
  have h3 : s.data.toList.length = s.size := rfl
  omega
theorem Suf.head {s : ByteArray} {i : Nat} {c : UInt8} {l : List UInt8} (h : Suf s i (c :: l)) : bA s i = c.toNat ∧ Suf s (i + 1) l := by
  have hl := h.le
  simp only [List.length_cons] at hl
  have hi : i < s.size := by omega
  have hd := List.drop_eq_getElem_cons (l := s.data.toList) (i := i) hi
  have h1 := h.1
  rw [hd] at h1
  injection h1 with h2 h3
  refine ⟨?_, h3, by omega⟩
  rw [bA_at hi, ← h2]
  rfl
theorem Suf.app {s : ByteArray} : ∀ {a : List UInt8} {i : Nat} {b : List UInt8}, Suf s i (a ++ b) → Suf s (i + a.length) b
  | [], i, b, h => h
  | c :: r, i, b, h => by
    have := Suf.app (a := r) (h.head.2)
    rw [List.length_cons, show i + (r.length + 1) = i + 1 + r.length by omega]
    exact this
theorem Suf.nil {s : ByteArray} {i : Nat} (h : Suf s i []) : bA s i = 0 ∧ i = s.size := by
  have := h.le
  simp only [List.length_nil] at this
  exact ⟨bA_end (by omega), by omega⟩
theorem suf_of (l : List UInt8) : Suf (ofL l) 0 l := ⟨by rw [ofL_list]; rfl, Nat.zero_le _⟩
/-- The first byte of a text; 0 of none. -/
def hd0 (l : List UInt8) : Nat := match l with | [] => 0 | c :: _ => c.toNat
theorem Suf.hd {s : ByteArray} {i : Nat} {l : List UInt8} (h : Suf s i l) : bA s i = hd0 l := by
  cases l with
  | nil => exact h.nil.1
  | cons c r => exact h.head.1
/-- The number that digits say, behind x. -/
def valD (x : Nat) (ds : List UInt8) : Nat := ds.foldl (fun x c => 10 * x + (c.toNat - 48)) x
theorem valD_app (x : Nat) (a b : List UInt8) : valD x (a ++ b) = valD (valD x a) b := List.foldl_append
theorem valD_ge : ∀ (ds : List UInt8) (x : Nat), 10 ^ ds.length * x ≤ valD x ds
  | [], x => by simp [valD]
  | c :: r, x => by
    have := valD_ge r (10 * x + (c.toNat - 48))
    show _ ≤ valD (10 * x + (c.toNat - 48)) r
    rw [List.length_cons, Nat.pow_succ, Nat.mul_assoc]
    exact Nat.le_trans (Nat.mul_le_mul_left _ (by omega)) this
def Digs (ds : List UInt8) : Prop := ∀ c ∈ ds, 48 ≤ c.toNat ∧ c.toNat ≤ 57
theorem digN_back {s : ByteArray} : ∀ (ds : List UInt8) (r : List UInt8) (f i x : Nat), Suf s i (ds ++ r) → Digs ds → isD (hd0 r) = false → ds.length ≤ f → f ≤ s.size - i → valD x ds ≤ 11529215046068469760 → digN s f i x = some (valD x ds, i + ds.length)
  | [], r, f, i, x, h, _, hr, _, hfi, _ => by
    have hb : isD (bA s i) = false := by rw [Suf.hd h]; exact hr
    cases f with
    | zero => rfl
    | succ f => rw [digN, if_neg (by rw [hb]; decide)]; rfl
  | c :: ds, r, f, i, x, h, hd, hr, hl, hfi, hv => by
    obtain ⟨hb, hs⟩ := Suf.head h
    have hc := hd c (by simp)
    cases f with
    | zero => simp at hl
    | succ f =>
      have hx : 10 * x ≤ 11529215046068469760 := by
        have h2 := valD_ge ds (10 * x + (c.toNat - 48))
        have h3 : valD x (c :: ds) = valD (10 * x + (c.toNat - 48)) ds := rfl
        have h4 : 1 ≤ 10 ^ ds.length := Nat.pow_pos (by decide)
        have h5 : 10 * x + (c.toNat - 48) ≤ 10 ^ ds.length * (10 * x + (c.toNat - 48)) := Nat.le_mul_of_pos_left _ h4
        omega
      have hd2 : isD c.toNat = true := by simp [isD, hc]
      rw [digN, hb, if_pos hd2, if_neg (by omega)]
      rw [digN_back ds r f (i + 1) _ hs (fun q hq => hd q (by simp [hq])) hr (by simpa using hl) (by omega) hv]
      rw [List.length_cons, show i + 1 + ds.length = i + (ds.length + 1) by omega]
      rfl
theorem dec_digs : ∀ (n : Nat), Digs (Go.Lib.decDigits n) := fun n => by
  induction n using Nat.strongRecOn with
  | _ n ih =>
    intro c hc
    rw [Go.Lib.decDigits] at hc
    have hdig : ∀ m, m < 10 → 48 ≤ (UInt8.ofNat (48 + m)).toNat ∧ (UInt8.ofNat (48 + m)).toNat ≤ 57 := fun m hm => by rw [UInt8.toNat_ofNat']; omega
    split at hc
    · rw [List.mem_singleton] at hc; subst hc; exact hdig n (by assumption)
    · rcases List.mem_append.1 hc with hc | hc
      · exact ih (n / 10) (by omega) c hc
      · rw [List.mem_singleton] at hc; subst hc; exact hdig _ (Nat.mod_lt _ (by decide))
theorem dec_val : ∀ (n : Nat), valD 0 (Go.Lib.decDigits n) = n := fun n => by
  induction n using Nat.strongRecOn with
  | _ n ih =>
    rw [Go.Lib.decDigits]
    split
    · rename_i h
      show 10 * 0 + ((UInt8.ofNat (48 + n)).toNat - 48) = n
      rw [UInt8.toNat_ofNat']
      omega
    · rw [valD_app, ih (n / 10) (by omega)]
      show 10 * (n / 10) + ((UInt8.ofNat (48 + n % 10)).toNat - 48) = n
      rw [UInt8.toNat_ofNat']
      omega
theorem dec_cons (n : Nat) : ∃ c r, Go.Lib.decDigits n = c :: r ∧ (c.toNat = 48 → n = 0 ∧ r = []) := by
  induction n using Nat.strongRecOn with
  | _ n ih =>
    rw [Go.Lib.decDigits]
    split
    · exact ⟨_, [], rfl, fun h => by rw [UInt8.toNat_ofNat'] at h; exact ⟨by omega, rfl⟩⟩
    · obtain ⟨c, r, h1, h2⟩ := ih (n / 10) (by omega)
      refine ⟨c, r ++ [UInt8.ofNat (48 + n % 10)], by rw [h1]; rfl, fun h => ?_⟩
      have := (h2 h).1
      omega
theorem numE_ok {m : Bool} {i1 c1 x i2 : Nat} (h1 : i2 ≠ i1) (h2 : ¬ (1 < i2 - i1 ∧ c1 = 48)) (h3 : ¬ (m = true ∧ x = 0)) : numE m i1 c1 x i2 = if m = true ∧ x ≤ 9223372036854775808 then some (-(x : Int), i2) else if x < 9223372036854775808 then some ((x : Int), i2) else none := by
  rw [numE, if_neg (fun h => by
    rcases h with h | h | h
    · exact h1 h
    · exact h2 h
    · exact h3 h)]
/-- A number that is printed is parsed. -/
theorem num_back {s : ByteArray} {i : Nat} {x : Int} {r : List UInt8} (h : Suf s i (Go.Lib.itoa x ++ r)) (hr : isD (hd0 r) = false) (h0 : -9223372036854775808 ≤ x) (h1 : x ≤ 9223372036854775807) : numP s i = some (x, i + (Go.Lib.itoa x).length) := by
  have hle := h.le
  rw [List.length_append] at hle
  unfold Go.Lib.itoa at h hle ⊢
  unfold numP
  by_cases hx : x < 0
  · rw [if_pos hx] at h hle ⊢
    obtain ⟨hb, hs⟩ := Suf.head h
    obtain ⟨c, q, hc, hz⟩ := dec_cons x.natAbs
    have hb45 : bA s i = 45 := hb
    rw [if_pos hb45]
    rw [digN_back _ r _ (i + 1) 0 hs (dec_digs _) hr (by simp only [List.length_cons] at hle; omega) (Nat.le_refl _) (by rw [dec_val]; omega), dec_val]
    have hs2 := hs
    rw [hc] at hs2
    have hb2 := (Suf.head hs2).1
    have hlen : (Go.Lib.decDigits x.natAbs).length = q.length + 1 := by rw [hc, List.length_cons]
    show numE true (i + 1) (bA s (i + 1)) x.natAbs (i + 1 + (Go.Lib.decDigits x.natAbs).length) = _
    rw [numE_ok (by omega) (fun hh => by rw [hb2] at hh; have := hz hh.2; omega) (by omega), if_pos ⟨rfl, by omega⟩]
    rw [List.length_cons, show i + 1 + (Go.Lib.decDigits x.natAbs).length = i + ((Go.Lib.decDigits x.natAbs).length + 1) by omega]
    congr 2
    omega
  · rw [if_neg hx] at h hle ⊢
    obtain ⟨c, q, hc, hz⟩ := dec_cons x.toNat
    have hs2 := h
    rw [hc] at hs2
    have hb2 := (Suf.head hs2).1
    have hcd := dec_digs x.toNat c (by rw [hc]; simp)
    rw [if_neg (by omega)]
    rw [digN_back _ r _ i 0 h (dec_digs _) hr (by omega) (Nat.le_refl _) (by rw [dec_val]; omega), dec_val]
    have hlen : (Go.Lib.decDigits x.toNat).length = q.length + 1 := by rw [hc, List.length_cons]
    show numE false i (bA s i) x.toNat (i + (Go.Lib.decDigits x.toNat).length) = _
    rw [numE_ok (by omega) (fun hh => by rw [hb2] at hh; have := hz hh.2; rw [hc, this.2] at hh; simp at hh) (by intro hh; cases hh.1), if_neg (by intro hh; cases hh.1), if_pos (by omega)]
    congr 2
    omega
end Go.Proofs.YtoibfefalflooaaDoor
