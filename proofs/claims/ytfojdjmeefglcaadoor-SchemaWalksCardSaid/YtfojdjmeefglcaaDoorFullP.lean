/-
  Plain facts for the law SchemaFull: twelve columns, one more, one less.
-/
import Derived.Test.YtfojdjmeefglcaaDoorPg
import Derived.Test.YtfojdjmeefglcaaDoorDec
namespace Go.Proofs.YtfojdjmeefglcaaDoor
open Go.RowKit

def cn (j : Nat) : ByteArray := str (99 :: digs 20 j [])
/-- The schema behind so many calls of Add. -/
def sf (k : Int) : Nat → Sch
  | 0 => ⟨0, [⟨1, str [99, 48], 1⟩], 2⟩
  | j + 1 => (addR (sf k j) (cn (j + 1)) k).1
def sfd (k : Int) (g : Nat) : Sch := (dropR (sf k 11) (cn g)).1
def sfu (k : Int) (g : Nat) : Sch := (addR (sfd k g) (cn g) 2).1

def fullB (k : Int) (g : Nat) : Bool :=
  ((dropR (sf k 11) (cn g)).2 == 0) && ((addR (sfd k g) (cn g) 2).2 == 0) && (idx (named (cn g)) (sfu k g).cols == 11) && ((sfu k g).cols.length == 12) && (((sfu k g).cols.map Col.id).getD 11 0 == 13)
def stepB (k : Int) (j : Nat) : Bool := (addR (sf k j) (cn (j + 1)) k).2 == 0
def sideB (k : Int) : Bool := ((addR (sf k 11) (str [109, 111, 114, 101]) 1).2 == 1203) && ((addR (sf k 11) (str [120]) 0).2 == 1200)
theorem full_ok : ([1, 2, 3] : List Int).all (fun k => (List.range 12).all fun g => fullB k g) = true := by decide +kernel
theorem step_ok : ([1, 2, 3] : List Int).all (fun k => (List.range 11).all fun g => stepB k g) = true := by decide +kernel
theorem side_ok : ([1, 2, 3] : List Int).all sideB = true := by decide +kernel
theorem sf_new : newR [str [99, 48]] [1] = (sf 1 0, 0) := by kernel_rfl
theorem sf_zero (k : Int) : sf k 0 = sf 1 0 := rfl
theorem sf_one : dropR (sf 1 0) (str [99, 48]) = (Sch.zero, 1203) := by kernel_rfl

variable {k : Int} (hk : k = 1 ∨ k = 2 ∨ k = 3)
include hk
theorem sf_add {j : Nat} (hj : j < 11) : addR (sf k j) (cn (j + 1)) k = (sf k (j + 1), 0) := by
  have h := List.all_eq_true.1 (List.all_eq_true.1 step_ok k (by simpa using hk)) j (by simpa using hj)
  simp only [stepB, beq_iff_eq] at h
  exact Prod.ext rfl h
theorem sf_more : ∃ s, addR (sf k 11) (str [109, 111, 114, 101]) 1 = (s, 1203) := by
  have h := List.all_eq_true.1 side_ok k (by simpa using hk)
  simp only [sideB, Bool.and_eq_true, beq_iff_eq] at h
  exact ⟨_, Prod.ext rfl h.1⟩
theorem sf_x : ∃ s, addR (sf k 11) (str [120]) 0 = (s, 1200) := by
  have h := List.all_eq_true.1 side_ok k (by simpa using hk)
  simp only [sideB, Bool.and_eq_true, beq_iff_eq] at h
  exact ⟨_, Prod.ext rfl h.2⟩
theorem sf_full {g : Nat} (hg : g < 12) : dropR (sf k 11) (cn g) = (sfd k g, 0) ∧ addR (sfd k g) (cn g) 2 = (sfu k g, 0) ∧ idx (named (cn g)) (sfu k g).cols = 11 ∧ ∃ c, (sfu k g).cols[11]? = some c ∧ c.id = 13 := by
  have h := List.all_eq_true.1 (List.all_eq_true.1 full_ok k (by simpa using hk)) g (by simpa using hg)
  simp only [fullB, Bool.and_eq_true, beq_iff_eq] at h
  obtain ⟨⟨⟨⟨h1, h2⟩, h3⟩, h4⟩, h5⟩ := h
  refine ⟨Prod.ext rfl h1, Prod.ext rfl h2, h3, (sfu k g).cols[11], List.getElem?_eq_getElem (by omega), ?_⟩
  rw [List.getD_eq_getElem?_getD, List.getElem?_map, List.getElem?_eq_getElem (by omega)] at h5
  exact h5
end Go.Proofs.YtfojdjmeefglcaaDoor
