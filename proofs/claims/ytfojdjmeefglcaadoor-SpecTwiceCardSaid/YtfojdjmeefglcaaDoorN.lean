import Derived.Test.YtfojdjmeefglcaaDoorK
import Derived.Test.YtfojdjmeefglcaaDoorL
import Derived.Test.YtfojdjmeefglcaaDoorM
namespace Go.Proofs.YtfojdjmeefglcaaDoor
open Go.RowKit

def str (l : List UInt8) : ByteArray := ⟨l.toArray⟩
def aw1 : Sch := ⟨0, [⟨1, str [97], 1⟩, ⟨2, str [98], 3⟩], 3⟩
def aw2 : Sch := ⟨1, [⟨1, str [97], 1⟩, ⟨2, str [98], 3⟩, ⟨3, str [99], 2⟩], 4⟩
def aw3 : Sch := ⟨2, [⟨2, str [98], 3⟩, ⟨3, str [99], 2⟩], 4⟩
def aw4 : Sch := ⟨3, [⟨2, str [97], 3⟩, ⟨3, str [99], 2⟩], 4⟩
theorem aw_e1 : newR [str [97], str [98]] [1, 3] = (aw1, 0) := by kernel_rfl
theorem aw_e2 : addR aw1 (str [99]) 2 = (aw2, 0) := by kernel_rfl
theorem aw_e3 : dropR aw2 (str [97]) = (aw3, 0) := by kernel_rfl
theorem aw_e4 : renameR aw3 (str [98]) (str [97]) = (aw4, 0) := by kernel_rfl
theorem aw_e5 : addR aw1 (str [97]) 2 = (Sch.zero, 1201) := by kernel_rfl
theorem aw_e6 : idx (named (str [97])) aw4.cols = 0 := by kernel_rfl
theorem aw_e7 : idx (named (str [122])) aw4.cols = -1 := by kernel_rfl
theorem aw_e8 : mayB aw4 = true := by kernel_rfl
theorem aw_e9 : mayB Sch.zero = false := by kernel_rfl
theorem aw_small (s : Sch) (h : s.cols.all (fun c => decide (c.name.size ≤ 100)) = true) : ∀ c ∈ s.cols, c.name.size ≤ 9223372036854775807 := fun c hc => by
  have := List.all_eq_true.1 h c hc
  simp at this
  omega
theorem Sch.zero_in (w : World) : SchIn w Sch.zero none 0 := ⟨Nat.le_refl _, by decide, by decide, fun h => absurd h (by decide), fun c hc => by simp [Sch.zero] at hc⟩
end Go.Proofs.YtfojdjmeefglcaaDoor
