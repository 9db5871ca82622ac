/-
  Depths and keys, plain: at concrete numbers, by computing.
-/
import Derived.Test.YtoibfefalflooaaDoorJ5
import Derived.Test.YtoibfefalflooaaDoorJ8
namespace Go.Proofs.YtoibfefalflooaaDoor
open Go.RowKit

mutual
/-- Are two values the same? -/
def jeq : J → J → Bool
  | .mk k b n s l ks, .mk k2 b2 n2 s2 l2 ks2 => decide (k = k2) && decide (b = b2) && decide (n = n2) && decide (s.data.toList = s2.data.toList) && jeqs l l2 && decide (ks.map (fun q => q.data.toList) = ks2.map (fun q => q.data.toList))
def jeqs : List J → List J → Bool
  | [], [] => true
  | a :: r, b :: q => jeq a b && jeqs r q
  | _, _ => false
end
theorem data_inj {a b : ByteArray} (h : a.data.toList = b.data.toList) : a = b := ByteArray.ext (Array.toList_inj.1 h)
theorem datas_inj : ∀ {a b : List ByteArray}, a.map (fun q => q.data.toList) = b.map (fun q => q.data.toList) → a = b
  | [], [], _ => rfl
  | [], _ :: _, h => by simp at h
  | _ :: _, [], h => by simp at h
  | x :: r, y :: q, h => by
    simp only [List.map_cons, List.cons.injEq] at h
    rw [data_inj h.1, datas_inj h.2]
mutual
theorem jeq_eq : ∀ {a b : J}, jeq a b = true → a = b
  | .mk k b n s l ks, .mk k2 b2 n2 s2 l2 ks2, h => by
    rw [jeq] at h
    simp only [Bool.and_eq_true, decide_eq_true_eq] at h
    obtain ⟨⟨⟨⟨⟨h1, h2⟩, h3⟩, h4⟩, h5⟩, h6⟩ := h
    rw [h1, h2, h3, data_inj h4, jeqs_eq h5, datas_inj h6]
theorem jeqs_eq : ∀ {a b : List J}, jeqs a b = true → a = b
  | [], [], _ => rfl
  | [], _ :: _, h => by rw [jeqs] at h; cases h; all_goals simp
  | _ :: _, [], h => by rw [jeqs] at h; cases h; all_goals simp
  | x :: r, y :: q, h => by
    rw [jeqs, Bool.and_eq_true] at h
    rw [jeq_eq h.1, jeqs_eq h.2]
end
def opD (o : Bool) : List UInt8 := if o then [123, 34, 107, 34, 58] else [91]
def shD (o : Bool) : List UInt8 := if o then [125] else [93]
def repL (a : List UInt8) : Nat → List UInt8
  | 0 => []
  | k + 1 => repL a k ++ a
/-- So many lists, or objects, one within the other. -/
def dJ (o : Bool) : Nat → J
  | 0 => J.zero
  | k + 1 => if o then .mk 5 false 0 ⟨#[]⟩ [dJ o k] [⟨#[107]⟩] else .mk 4 false 0 ⟨#[]⟩ [dJ o k] []
def dT (o : Bool) (k : Nat) : List UInt8 := repL (opD o) k ++ [110, 117, 108, 108] ++ repL (shD o) k
def okD (k : Nat) (o : Bool) : Bool :=
  if 16 < k then decide ((parseP (ofL (dT o k))).2 = 301) && decide ((printP (dJ o k)).2 = 301) && decide ((printP (dJ o k)).1.data.toList = [])
  else jeq (parseP (ofL (dT o k))).1 (dJ o k) && decide ((parseP (ofL (dT o k))).2 = 0) && decide ((printP (dJ o k)).2 = 0) && decide ((printP (dJ o k)).1.data.toList = dT o k)
theorem okD_all : ∀ (k : Fin 32) (o : Bool), okD k.val o = true := by decide +kernel
theorem repL_len (a : List UInt8) (k : Nat) : (repL a k).length = k * a.length := by
  induction k with
  | zero => simp [repL]
  | succ k ih => rw [repL, List.length_append, ih, Nat.succ_mul]
theorem deep_no {k : Nat} (hk : k < 32) (h : 16 < k) (o : Bool) : (parseP (ofL (dT o k))).2 = 301 ∧ printP (dJ o k) = (⟨#[]⟩, 301) := by
  have := okD_all ⟨k, hk⟩ o
  simp only [okD, if_pos h, Bool.and_eq_true, decide_eq_true_eq] at this
  exact ⟨this.1.1, Prod.ext (data_inj this.2) this.1.2⟩
theorem deep_ok {k : Nat} (h : k ≤ 16) (o : Bool) : parseP (ofL (dT o k)) = (dJ o k, 0) ∧ printP (dJ o k) = (ofL (dT o k), 0) := by
  have := okD_all ⟨k, by omega⟩ o
  simp only [okD, if_neg (show ¬ 16 < k by omega), Bool.and_eq_true, decide_eq_true_eq] at this
  exact ⟨Prod.ext (jeq_eq this.1.1.1) this.1.1.2, Prod.ext (data_inj (by rw [this.2, ofL_list])) this.1.2⟩

/-! ### Keys -/
def kS (q : Nat) : ByteArray := ⟨#[107]⟩ ++ ofL (Go.Lib.itoa (q : Int))
def kJ (k : Nat) : J := .mk 5 false 0 ⟨#[]⟩ ((List.range k).map fun q : Nat => nJ (10 * (q : Int))) ((List.range k).map kS)
def kJ2 (k w : Nat) : J := .mk 5 false 0 ⟨#[]⟩ ((List.range k).map (fun q : Nat => nJ (10 * (q : Int))) ++ [J.zero]) ((List.range k).map kS ++ [kS w])
def okK (k w : Nat) : Bool := decide (k ≤ w) || (decide ((getP (kJ k) (kS w)).1.n = 10 * (w : Int)) && (getP (kJ k) (kS w)).2 && !(getP (kJ k) ⟨#[122, 122]⟩).2 && decide ((printP (kJ k)).2 = 0) && decide ((printP (kJ2 k w)).2 = 300))
theorem okK_all : ∀ (k : Fin 9) (w : Fin 8), okK k.val w.val = true := by decide +kernel
theorem keys_ok {k w : Nat} (hk : k ≤ 8) (hw : w < k) : (getP (kJ k) (kS w)).1.n = 10 * (w : Int) ∧ (getP (kJ k) (kS w)).2 = true ∧ (getP (kJ k) ⟨#[122, 122]⟩).2 = false ∧ (printP (kJ k)).2 = 0 ∧ (printP (kJ2 k w)).2 = 300 := by
  have := okK_all ⟨k, by omega⟩ ⟨w, by omega⟩
  simp only [okK, decide_eq_false (show ¬ k ≤ w by omega), Bool.false_or, Bool.and_eq_true, decide_eq_true_eq, Bool.not_eq_true'] at this
  exact ⟨this.1.1.1.1, this.1.1.1.2, this.1.1.2, this.1.2, this.2⟩
theorem k_none : getP (nJ 0) ⟨#[107, 48]⟩ = (J.zero, false) := by kernel_rfl
theorem k_twice : (parseP ⟨#[123, 34, 97, 34, 58, 49, 44, 34, 92, 117, 48, 48, 54, 49, 34, 58, 50, 125]⟩).2 = 300 := by kernel_rfl
theorem i64_and7 (n : Int) : bits .and .i64 n 7 = n % 8 := by
  have h7 : (BitVec.ofInt 64 7).toNat = 2 ^ 3 - 1 := by decide
  have key : (BitVec.ofInt 64 n &&& BitVec.ofInt 64 7).toNat = (n % ((2 ^ 64 : Nat) : Int)).toNat % 2 ^ 3 := by
    rw [BitVec.toNat_and, BitVec.toNat_ofInt, h7, Nat.and_two_pow_sub_one_eq_mod]
  show IntKind.i64.wrap ((BitVec.ofInt 64 n &&& BitVec.ofInt 64 7).toNat : Nat) = n % 8
  rw [key, IntKind.wrap_i64]
  omega
theorem i64_and31 (n : Int) : bits .and .i64 n 31 = n % 32 := by
  have h31 : (BitVec.ofInt 64 31).toNat = 2 ^ 5 - 1 := by decide
  have key : (BitVec.ofInt 64 n &&& BitVec.ofInt 64 31).toNat = (n % ((2 ^ 64 : Nat) : Int)).toNat % 2 ^ 5 := by
    rw [BitVec.toNat_and, BitVec.toNat_ofInt, h31, Nat.and_two_pow_sub_one_eq_mod]
  show IntKind.i64.wrap ((BitVec.ofInt 64 n &&& BitVec.ofInt 64 31).toNat : Nat) = n % 32
  rw [key, IntKind.wrap_i64]
  omega
end Go.Proofs.YtoibfefalflooaaDoor
