/-
  Rows: where they lie, and where each one's values lie.
-/
import Derived.Test.YtinpnginjpfbpaaDoorV
import Derived.Test.YtinpnginjpfbpaaDoorBase
import Derived.Deep.RegionHeld3
import Derived.Deep.RegionLaw
import Derived.Deep.Cut
import Derived.Deep.CutBlock
namespace Go.Proofs.YtinpnginjpfbpaaDoor
open Go.RowKit

/-- A row, with where its values lie. -/
structure RowA where
  A : Option Addr
  cap : Nat
  vs : List Val
def RowA.cells (r : RowA) : List Value := [.slice r.A r.vs.length r.cap]
/-- A row that is read. -/
structure RowIn (w : World) (r : RowA) : Prop where
  hcap : r.vs.length ≤ r.cap
  hcapm : r.vs.length ≤ 3518437208780
  hcap2 : r.cap ≤ 9223372036854775807
  at_ : SlAt w w.heap.size 4 r.A (r.vs.map Val.cells)
  strs : ∀ v ∈ r.vs, v.s.size ≤ 9223372036854775807
theorem RowIn.fut {w w' : World} {r : RowA} (h : RowIn w r) [k : Fut w w'] : RowIn w' r := ⟨h.hcap, h.hcapm, h.hcap2, h.at_.fut, h.strs⟩
/-- Rows that are read. -/
structure RowsIn (w : World) (rs : List RowA) (A : Option Addr) (cap : Nat) : Prop where
  hcap : rs.length ≤ cap
  hcapm : rs.length ≤ 5864062014800
  hcap2 : cap ≤ 9223372036854775807
  at_ : SlAt w w.heap.size 1 A (rs.map RowA.cells)
  rows : ∀ r ∈ rs, RowIn w r
theorem RowsIn.fut {w w' : World} {rs : List RowA} {A : Option Addr} {cap : Nat} (h : RowsIn w rs A cap) [k : Fut w w'] : RowsIn w' rs A cap := ⟨h.hcap, h.hcapm, h.hcap2, h.at_.fut, fun r hr => (h.rows r hr).fut⟩
theorem row_fit (r : RowA) : r.cells.length = 1 ∧ ∀ u ∈ r.cells, u.oneCell' = true := by
  refine ⟨rfl, fun u hu => ?_⟩
  simp [RowA.cells] at hu
  subst hu
  rfl
theorem rows_fit (l : List RowA) : Fit 1 (l.map RowA.cells) := Fit.map row_fit l
/-- Row k, in whatever later world. -/
theorem RowsIn.row {w w' : World} {rs : List RowA} {A : Option Addr} {cap : Nat} (h : RowsIn w rs A cap) (hf : Fut w w') {k : Nat} (hk : k < rs.length) :
    ∃ b off, A = some ⟨b, off, none⟩ ∧ b < w.heap.size ∧ ∃ r, rs[k]? = some r ∧ RowIn w r ∧ w'.cell? ⟨b, off + k, none⟩ = some (.slice r.A r.vs.length r.cap) := by
  obtain ⟨b, off, e, hb, hc⟩ := h.at_.elem hf (k := k) (by simpa using hk)
  have hr : rs[k]? = some rs[k] := List.getElem?_eq_getElem hk
  refine ⟨b, off, e, hb, rs[k], hr, h.rows _ (List.getElem_mem hk), ?_⟩
  have h1 := At.l1 (hc k rs[k].cells (by simp [hr]))
  simpa using h1
theorem eiRow : EI Tryd.prog 25 48 1 24 :=
  ⟨Tryd.underlying25, info_parts (show (Tryd.prog.info? 48).map (fun i => (i.zero, i.size, i.bytes)) = some (some (.agg #[.slice none 0 0]), 1, 24) by kernel_rfl) |>.elim fun i h => ⟨i, _, h.1, h.2.1, h.2.2.1, h.2.2.2, rfl⟩, by decide, by decide⟩

theorem eiInt : EI Tryd.prog 51 3 1 8 :=
  ⟨Tryd.underlying51, info_parts (show (Tryd.prog.info? 3).map (fun i => (i.zero, i.size, i.bytes)) = some (some (.int .i64 0), 1, 8) by kernel_rfl) |>.elim fun i h => ⟨i, _, h.1, h.2.1, h.2.2.1, h.2.2.2, rfl⟩, by decide, by decide⟩
theorem int_fit (l : List Int) : Fit 1 (intCells l) := Fit.map (f := fun n : Int => [Value.int .i64 n]) (fun n => ⟨rfl, fun u hu => by simp at hu; rw [hu]; rfl⟩) l
theorem intCells_len (l : List Int) : (intCells l).length = l.length := by simp [intCells]
theorem eiV4 : EI Tryd.prog 45 57 4 40 :=
  ⟨Tryd.underlying45, info_parts (show (Tryd.prog.info? 57).map (fun i => (i.zero, i.size, i.bytes)) = some (some (.agg #[.int .i64 0, .int .i64 0, .bool false, .string .empty]), 4, 40) by kernel_rfl) |>.elim fun i h => ⟨i, _, h.1, h.2.1, h.2.2.1, h.2.2.2, rfl⟩, by decide, by decide⟩
theorem box_cells (v : Val) : (clean v).cells = [.int .i64 (kindV v), .int .i64 (clean v).i, .bool (clean v).b, .string (clean v).s] := by
  show [_, _, _, _] = [_, _, _, _]
  rw [clean_kind]
theorem box_fit (v : Val) : Fit 4 [[.int .i64 (kindV v), .int .i64 (clean v).i, .bool (clean v).b, .string (clean v).s]] := by
  rw [← box_cells]
  exact vals_fit [clean v]
theorem own_ne {w : World} {b1 b2 : Nat} {e1 e2 : TypeId} {s1 s2 : Nat} {v1 v2 : Value} {l1 l2 : List (List Value)} (h1 : Own w b1 e1 s1 v1 l1) (h2 : Own w b2 e2 s2 v2 l2) (hne : e1 ≠ e2) : ∀ k, v1.ownBlock = some k → v2.ownBlock ≠ some k := by
  intro k hk1 hk2
  rcases h1.2 with ⟨rfl, _⟩ | ⟨g, cap, cur, rfl, _, hh, _⟩
  · simp [Value.ownBlock] at hk1
  rcases h2.2 with ⟨rfl, _⟩ | ⟨g2, cap2, cur2, rfl, _, hh2, _⟩
  · simp [Value.ownBlock] at hk2
  simp [Value.ownBlock] at hk1 hk2
  subst hk1
  subst hk2
  rw [hh] at hh2
  simp at hh2
  exact hne hh2.2
/-- Rows that the call has made. -/
structure OwnR (w : World) (base : Nat) (A : Option Addr) (n c : Nat) (rs : List RowA) : Prop where
  out : Own w base 48 1 (.slice A n c) (rs.map RowA.cells)
  rows : ∀ r ∈ rs, Own w base 57 4 (.slice r.A r.vs.length r.cap) (r.vs.map Val.cells)
theorem OwnR.fut {w w' : World} {base : Nat} {A : Option Addr} {n c : Nat} {rs : List RowA} (h : OwnR w base A n c rs) [k : Fut w w'] : OwnR w' base A n c rs := ⟨h.out.fut, fun r hr => (h.rows r hr).fut⟩
theorem OwnR.app {w w' : World} {base : Nat} {A A' : Option Addr} {n c n' c' : Nat} {rs : List RowA} {r : RowA} (h : OwnR w base A n c rs) (hr : Own w base 57 4 (.slice r.A r.vs.length r.cap) (r.vs.map Val.cells)) (ho : Own w' base 48 1 (.slice A' n' c') (rs.map RowA.cells ++ [r.cells])) (hg : w.grownBy w' (Value.slice A n c).ownBlock) : OwnR w' base A' n' c' (rs ++ [r]) :=
  ⟨by simpa using ho, fun x hx => by
    have hx' : Own w base 57 4 (.slice x.A x.vs.length x.cap) (x.vs.map Val.cells) := by
      rcases List.mem_append.1 hx with hx | hx
      · exact h.rows x hx
      · simp at hx; subst hx; exact hr
    exact hx'.grown_other hg (own_ne hx' h.out (by decide))⟩
theorem slice_fit (A : Option Addr) (n c : Nat) : Fit 1 [[Value.slice A n c]] := by
  have := rows_fit [⟨A, c, List.replicate n ⟨0, 0, false, .empty⟩⟩]
  simpa [RowA.cells] using this
theorem own_len {w : World} {base : Nat} {A : Option Addr} {c : Nat} {vs : List Val} (h : Own w base 57 4 (.slice A vs.length c) ((vs.map clean).map Val.cells)) : Own w base 57 4 (.slice A (vs.map clean).length c) ((vs.map clean).map Val.cells) := by rw [List.length_map]; exact h
theorem row_cells {w : World} {base n c c2 : Nat} {A A2 : Option Addr} {vs : List Val} {l : List (List Value)} (h : Own w base 48 1 (.slice A n c) (l ++ [[.slice A2 vs.length c2]])) : Own w base 48 1 (.slice A n c) (l ++ [(RowA.mk A2 c2 (vs.map clean)).cells]) := by
  have : (RowA.mk A2 c2 (vs.map clean)).cells = [.slice A2 vs.length c2] := by simp [RowA.cells]
  rw [this]; exact h
/-- Rows that the call has made, read. -/
theorem RowIn.of_own {w : World} {base : Nat} {r : RowA} (h : Own w base 57 4 (.slice r.A r.vs.length r.cap) (r.vs.map Val.cells)) (hl : r.vs.length ≤ 3518437208780) (hs : ∀ v ∈ r.vs, v.s.size ≤ 9223372036854775807) : RowIn w r := by
  obtain ⟨A', c', hv, h1, h2, h3, _⟩ := h.slice (vals_fit r.vs).len (by simp : (r.vs.map Val.cells).length = r.vs.length)
  injection hv with e1 e2 e3
  subst e1 e3
  exact ⟨h1, hl, by simpa [maxLen] using h2, h3, hs⟩
theorem OwnR.rin {w : World} {base : Nat} {A : Option Addr} {c : Nat} {rs : List RowA} (h : OwnR w base A rs.length c rs) (hl : rs.length ≤ 5864062014800) (hs : ∀ vs ∈ rs.map RowA.vs, vs.length ≤ 3518437208780 ∧ ∀ v ∈ vs, v.s.size ≤ 9223372036854775807) : RowsIn w rs A c := by
  obtain ⟨A', c', hv, h1, h2, h3, _⟩ := h.out.slice (rows_fit rs).len (by simp : (rs.map RowA.cells).length = rs.length)
  injection hv with e1 e2 e3
  subst e1 e3
  exact ⟨h1, hl, by simpa [maxLen] using h2, h3, fun r hr => RowIn.of_own (h.rows r hr) (hs r.vs (List.mem_map.2 ⟨r, hr, rfl⟩)).1 (hs r.vs (List.mem_map.2 ⟨r, hr, rfl⟩)).2⟩
end Go.Proofs.YtinpnginjpfbpaaDoor
