/-
  The program's own functions on schemas, asked in whatever later world.
-/
import Derived.Test.YtfojdjmeefglcaaDoorRd
import Derived.Test.YtfojdjmeefglcaaDoorRe
import Derived.Test.YtfojdjmeefglcaaDoorO
import Derived.Test.YtfojdjmeefglcaaDoorPs
namespace Go.Proofs.YtfojdjmeefglcaaDoor
open Go.RowKit

theorem add_fine (s : Sch) (nm : ByteArray) (k : Int) : Fine (addR s nm k).1 := by
  unfold addR
  repeat' split
  all_goals first | exact zero_fine | exact next_fine _
theorem drop_fine (s : Sch) (nm : ByteArray) : Fine (dropR s nm).1 := by
  unfold dropR
  repeat' split
  all_goals first | exact zero_fine | exact next_fine _
theorem rename_fine (s : Sch) (nm nw : ByteArray) : Fine (renameR s nm nw).1 := by
  unfold renameR
  repeat' split
  all_goals first | exact zero_fine | exact next_fine _
variable {w0 : World}
theorem padd (s : Sch) (A : Option Addr) (cap : Nat) (nm : ByteArray) (k : Int) (w : World) (h : SchIn w0 s A cap) [Fut w0 w] (hn : nm.size ≤ 9223372036854775807) :
    Calls Tryd.prog 15 #[s.val A cap, .string nm, .int .i64 k] w (SR w (addR s nm k)) := (add_any s A cap nm k w h.fut hn).mono fun _ _ h => h.sr (add_fine _ _ _)
theorem pdrop (s : Sch) (A : Option Addr) (cap : Nat) (nm : ByteArray) (w : World) (h : SchIn w0 s A cap) [Fut w0 w] :
    Calls Tryd.prog 17 #[s.val A cap, .string nm] w (SR w (dropR s nm)) := (drop_any s A cap nm w h.fut).mono fun _ _ h => h.sr (drop_fine _ _)
theorem prename (s : Sch) (A : Option Addr) (cap : Nat) (nm nw : ByteArray) (w : World) (h : SchIn w0 s A cap) [Fut w0 w] (hn : nw.size ≤ 9223372036854775807) :
    Calls Tryd.prog 19 #[s.val A cap, .string nm, .string nw] w (SR w (renameR s nm nw)) := (rename_any s A cap nm nw w h.fut hn).mono fun _ _ h => h.sr (rename_fine _ _ _)
theorem pnew {wn wk : World} (ns : List ByteArray) (ks : List Int) (An Ak : Option Addr) (cn ck : Nat) (w : World) (hn : SlAt wn wn.heap.size 1 An (strCells ns)) (hk : SlAt wk wk.heap.size 1 Ak (intCells ks)) [Fut wn w] [Fut wk w]
    (hns : ns.length ≤ 8796093022208) (hnm : ∀ n ∈ ns, n.size ≤ 9223372036854775807) :
    Calls Tryd.prog 27 #[.slice An ns.length cn, .slice Ak ks.length ck] w (SR w (newR ns ks)) := (new_any ns ks An Ak cn ck w hn.fut hk.fut hns hnm).mono fun _ _ h => h.sr (new_fine _ _)
theorem qadd (s : Sch) (A : Option Addr) (cap : Nat) (nm : ByteArray) (k : Int) (w : World) (h : SchIn w0 s A cap) [Fut w0 w] :
    Calls Tryd.prog 16 #[s.val A cap, .string nm, .int .i64 k] w (SR w (addR s nm k)) := (radd_any s A cap nm k w h).mono fun _ _ h => h.sr (add_fine _ _ _)
theorem qdrop (s : Sch) (A : Option Addr) (cap : Nat) (nm : ByteArray) (w : World) (h : SchIn w0 s A cap) [Fut w0 w] :
    Calls Tryd.prog 18 #[s.val A cap, .string nm] w (SR w (dropR s nm)) := (rdrop_any s A cap nm w h).mono fun _ _ h => h.sr (drop_fine _ _)
theorem qrename (s : Sch) (A : Option Addr) (cap : Nat) (nm nw : ByteArray) (w : World) (h : SchIn w0 s A cap) [Fut w0 w] :
    Calls Tryd.prog 20 #[s.val A cap, .string nm, .string nw] w (SR w (renameR s nm nw)) := (rrename_any s A cap nm nw w h).mono fun _ _ h => h.sr (rename_fine _ _ _)
theorem pawake (w : World) : Calls Tryd.prog 31 #[] w fun e w' => e = .returned (.bool true) ∧ Step w w' := (awake12_any w).mono fun _ _ h => ⟨h.1, ⟨h.2⟩⟩
end Go.Proofs.YtfojdjmeefglcaaDoor
