/-
  Bytes as a text (of the document's digits).
-/
import Derived.Test.YtinpnginjpfbpaaDoorBase
import Derived.Laws.IdiomStrings
namespace Go.Proofs.YtinpnginjpfbpaaDoor
open Go.RowKit

def byteCells (l : List UInt8) : List (List Value) := l.map fun b => [.int .u8 (b.toNat : Int)]
theorem byte_fit (l : List UInt8) : Fit 1 (byteCells l) := Fit.map (f := fun b : UInt8 => [Value.int .u8 (b.toNat : Int)]) (fun b => ⟨rfl, fun u hu => by simp at hu; rw [hu]; rfl⟩) l
theorem eiByte : EI Tryd.prog 78 5 1 1 :=
  ⟨Tryd.underlying78, info_parts (show (Tryd.prog.info? 5).map (fun i => (i.zero, i.size, i.bytes)) = some (some (.int .u8 0), 1, 1) by kernel_rfl) |>.elim fun i h => ⟨i, _, h.1, h.2.1, h.2.2.1, h.2.2.2, rfl⟩, by decide, by decide⟩

/-- Bytes that a slice leads to, as a text. -/
theorem bytes_conv {W : World} {A : Option Addr} {c n : Nat} {l : List UInt8} (h : SlAt W W.heap.size 1 A (byteCells l)) (hn : l.length = n) (hp : 0 < n) : (convert 78 9 (.slice A n c)).run Tryd.prog W = .ok (.string ⟨l.toArray⟩) W := by
  subst hn
  obtain ⟨b, off, rfl, _, hc⟩ := h (by simpa [byteCells] using hp)
  exact run_convert_bytes_back (P := Tryd.prog) W 78 9 5 ⟨b, off, none⟩ c l Tryd.underlying78 Tryd.underlying5 Tryd.underlying9 (fun j hj => by
    have := hc j [.int .u8 (l[j].toNat : Int)] (by simp [byteCells, hj]) 0 _ rfl
    rw [Go.WideShapes.add_plain]
    simpa using this)

def lenV : Value → Nat | .slice _ n _ => n | _ => 0
def digs : Nat → Nat → List UInt8 → List UInt8
  | 0, _, acc => acc
  | f + 1, m, acc => if m = 0 ∧ acc ≠ [] then acc else digs f (m / 10) (UInt8.ofNat (48 + m % 10) :: acc)
def decB (n : Nat) : ByteArray := ⟨(digs 20 n []).toArray⟩

theorem digs_len : ∀ (f m : Nat) (acc : List UInt8), (digs f m acc).length ≤ acc.length + f
  | 0, _, acc => by simp [digs]
  | f + 1, m, acc => by
    rw [digs]
    split
    · omega
    · have := digs_len f (m / 10) (UInt8.ofNat (48 + m % 10) :: acc)
      simp only [List.length_cons] at this
      omega
theorem decB_size (n : Nat) : (decB n).size ≤ 20 := by
  have := digs_len 20 n []
  simpa [decB, ByteArray.size] using this

end Go.Proofs.YtinpnginjpfbpaaDoor
