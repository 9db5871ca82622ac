/-
  Texts put together: Xt0.
-/
import Derived.Test.YtnphokhehacfnaaGreatDoorSz01
import Derived.Test.YtnphokhehacfnaaGreatDoorSz90
import Derived.Test.YtnphokhehacfnaaGreatDoorSz91
namespace Go.Proofs.YtnphokhehacfnaaGreatDoor
open Go.RowKit

theorem one_strS {w : World} {b : Nat} {s : ByteArray} (h : Blk w b 9 [.string s]) : SlAt w w.heap.size 1 (some ⟨b, 0, none⟩) (strCells [s]) := SlAt.of_at (size := 1) (l := strCells [s]) h.at0 h.lt (fun x hx => by simp only [strCells, List.map_cons, List.map_nil, List.mem_cons, List.not_mem_nil, or_false] at hx; rw [hx]; rfl)
theorem fut_of {w w' : World} (h : Below w.heap.size w w') : Fut w w' := ⟨h⟩
theorem RowsOut.setO {w : World} {base U : Nat} {ns : List ByteArray} {vss : List (List Val)} {An : Option Addr} {cn : Nat} {os : List RowA} {Ar : Option Addr} {cr : Nat} {cs : List Value} (h : RowsOut w base ns vss An cn os Ar cr) (hu : Blk w U 38 cs) (i : Nat) (v : Value) : RowsOut (w.setCell ⟨U, i, none⟩ v) base ns vss An cn os Ar cr := ⟨h.names.grownE hu (grown_setCell w U i v) (by decide), h.rows.grownE hu (grown_setCell w U i v) (by decide), h.asc, h.perm⟩
theorem readR_err {t : Tb} {o : Opp} {c : Int} (h : readR t o = .error c) : c ≠ 0 := by
  unfold readR at h
  split at h
  · injection h with h; omega
  · exact readN_err h
theorem sumS_bd : ∀ (l : List Val) (st : Int × Val × Val), st.1 ≤ (l.foldl sumStep st).1 ∧ (l.foldl sumStep st).1 ≤ st.1 + (l.length : Int)
  | [], st => by
    show st.1 ≤ st.1 ∧ st.1 ≤ st.1 + 0
    omega
  | v :: r, st => by
    rw [List.foldl_cons, List.length_cons]
    have h := sumS_bd r (sumStep st v)
    have h2 : st.1 ≤ (sumStep st v).1 ∧ (sumStep st v).1 ≤ st.1 + 1 := by
      unfold sumStep
      split
      · omega
      · show st.1 ≤ st.1 + 1 ∧ st.1 + 1 ≤ st.1 + 1
        omega
    omega
def set4V (w : World) (g : Nat) (v : Val) : World := (((w.setCell ⟨g, 0, none⟩ (.int .i64 v.kind)).setCell ⟨g, 1, none⟩ (.int .i64 v.i)).setCell ⟨g, 2, none⟩ (.bool v.b)).setCell ⟨g, 3, none⟩ (.string v.s)
theorem set4V_blk {w : World} {g : Nat} {e : TypeId} {a b c d : Value} (h : Blk w g e [a, b, c, d]) (v : Val) : Blk (set4V w g v) g e [.int .i64 v.kind, .int .i64 v.i, .bool v.b, .string v.s] := (((h.set_ 0 _).set_ 1 _).set_ 2 _).set_ 3 _
theorem set4V_far {w : World} {g b : Nat} {e : TypeId} {cs : List Value} (h : Blk w g e cs) (hb : g ≠ b) (v : Val) : Blk (set4V w b v) g e cs := (((h.far (p := ⟨b, 0, none⟩) hb _).far (p := ⟨b, 1, none⟩) hb _).far (p := ⟨b, 2, none⟩) hb _).far (p := ⟨b, 3, none⟩) hb _
theorem set4V_below {B : Nat} {w W : World} {g : Nat} (h : Below B w W) (hg : B ≤ g) (v : Val) : Below B w (set4V W g v) := (((h.setCell (p := ⟨g, 0, none⟩) hg _).setCell (p := ⟨g, 1, none⟩) hg _).setCell (p := ⟨g, 2, none⟩) hg _).setCell (p := ⟨g, 3, none⟩) hg _
end Go.Proofs.YtnphokhehacfnaaGreatDoor

