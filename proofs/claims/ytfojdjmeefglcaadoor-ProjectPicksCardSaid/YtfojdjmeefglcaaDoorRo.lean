/-
  Rows: where they lie, and where each one's values lie.
-/
import Derived.Test.YtfojdjmeefglcaaDoorV
namespace Go.Proofs.YtfojdjmeefglcaaDoor
open Go.RowKit

/-- A row, with where its values lie. -/
structure RowA where
  A : Option Addr
  cap : Nat
  vs : List Val
def RowA.cells (r : RowA) : List Value := [.slice r.A r.vs.length r.cap]
/-- A row that is read. -/
structure RowIn (w : World) (r : RowA) : Prop where
  hcap : r.vs.length ≤ r.cap
  hcapm : r.vs.length ≤ 3518437208780
  hcap2 : r.cap ≤ 9223372036854775807
  at_ : SlAt w w.heap.size 4 r.A (r.vs.map Val.cells)
  strs : ∀ v ∈ r.vs, v.s.size ≤ 9223372036854775807
theorem RowIn.fut {w w' : World} {r : RowA} (h : RowIn w r) [k : Fut w w'] : RowIn w' r := ⟨h.hcap, h.hcapm, h.hcap2, h.at_.fut, h.strs⟩
/-- Rows that are read. -/
structure RowsIn (w : World) (rs : List RowA) (A : Option Addr) (cap : Nat) : Prop where
  hcap : rs.length ≤ cap
  hcapm : rs.length ≤ 5864062014634
  hcap2 : cap ≤ 9223372036854775807
  at_ : SlAt w w.heap.size 1 A (rs.map RowA.cells)
  rows : ∀ r ∈ rs, RowIn w r
theorem RowsIn.fut {w w' : World} {rs : List RowA} {A : Option Addr} {cap : Nat} (h : RowsIn w rs A cap) [k : Fut w w'] : RowsIn w' rs A cap := ⟨h.hcap, h.hcapm, h.hcap2, h.at_.fut, fun r hr => (h.rows r hr).fut⟩
theorem row_fit (r : RowA) : r.cells.length = 1 ∧ ∀ u ∈ r.cells, u.oneCell' = true := by
  refine ⟨rfl, fun u hu => ?_⟩
  simp [RowA.cells] at hu
  subst hu
  rfl
theorem rows_fit (l : List RowA) : Fit 1 (l.map RowA.cells) := Fit.map row_fit l
/-- Row k, in whatever later world. -/
theorem RowsIn.row {w w' : World} {rs : List RowA} {A : Option Addr} {cap : Nat} (h : RowsIn w rs A cap) (hf : Fut w w') {k : Nat} (hk : k < rs.length) :
    ∃ b off, A = some ⟨b, off, none⟩ ∧ b < w.heap.size ∧ ∃ r, rs[k]? = some r ∧ RowIn w r ∧ w'.cell? ⟨b, off + k, none⟩ = some (.slice r.A r.vs.length r.cap) := by
  obtain ⟨b, off, e, hb, hc⟩ := h.at_.elem hf (k := k) (by simpa using hk)
  have hr : rs[k]? = some rs[k] := List.getElem?_eq_getElem hk
  refine ⟨b, off, e, hb, rs[k], hr, h.rows _ (List.getElem_mem hk), ?_⟩
  have h1 := At.l1 (hc k rs[k].cells (by simp [hr]))
  simpa using h1
theorem eiRow : EI Tryd.prog 54 70 1 24 :=
  ⟨Tryd.underlying54, info_parts (show (Tryd.prog.info? 70).map (fun i => (i.zero, i.size, i.bytes)) = some (some (.agg #[.slice none 0 0]), 1, 24) by kernel_rfl) |>.elim fun i h => ⟨i, _, h.1, h.2.1, h.2.2.1, h.2.2.2, rfl⟩, by decide, by decide⟩
end Go.Proofs.YtfojdjmeefglcaaDoor
