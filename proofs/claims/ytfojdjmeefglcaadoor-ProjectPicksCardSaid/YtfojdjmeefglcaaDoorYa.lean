/-
  Plain: which files may be; a file's rows under a schema; some columns of rows.
-/
import Derived.Test.YtfojdjmeefglcaaDoorYu
import Derived.Test.YtfojdjmeefglcaaDoorPrP
namespace Go.Proofs.YtfojdjmeefglcaaDoor
open Go.RowKit

/-- Is a value null, or of a kind, and not too long? -/
def fitsB (kind : Int) (v : Val) : Bool := kindV v == 0 || (kindV v == kind && decide ((clean v).s.size ≤ 64) && validB (clean v).s)
def colB (rows last : Int) (c : Col) (vs : List Val) : Bool := decide (last < c.id) && c.name.size == 0 && kindB c.kind && decide ((vs.length : Int) = rows) && vs.all (fitsB c.kind)
def colsB (rows : Int) : Int → List Col → List (List Val) → Bool
  | last, c :: cs, v :: vs => colB rows last c v && colsB rows c.id cs vs
  | _, _, _ => true
def fileB (rows : Int) (cols : List Col) (vals : List (List Val)) : Bool :=
  decide (0 ≤ rows) && decide (rows ≤ 4096) && decide (1 ≤ cols.length) && decide (cols.length ≤ 12) && decide (vals.length = cols.length) && colsB rows 0 cols vals
theorem fileB_iff {rows : Int} {cols : List Col} {vals : List (List Val)} : fileB rows cols vals = true ↔ (0 ≤ rows ∧ rows ≤ 4096 ∧ 1 ≤ cols.length ∧ cols.length ≤ 12 ∧ vals.length = cols.length) ∧ colsB rows 0 cols vals = true := by
  unfold fileB
  simp only [Bool.and_eq_true, decide_eq_true_eq]
  constructor
  · rintro ⟨⟨⟨⟨⟨a, b⟩, c⟩, d⟩, e⟩, f⟩; exact ⟨⟨a, b, c, d, e⟩, f⟩
  · rintro ⟨⟨a, b, c, d, e⟩, f⟩; exact ⟨⟨⟨⟨⟨a, b⟩, c⟩, d⟩, e⟩, f⟩
theorem colsB_len : ∀ {cols : List Col} {vals : List (List Val)} {rows last : Int}, colsB rows last cols vals = true → ∀ (k : Nat) (c : Col) (vs : List Val), cols[k]? = some c → vals[k]? = some vs → (vs.length : Int) = rows ∧ last < c.id ∧ vs.all (fitsB c.kind) = true
  | [], _, _, _, _, k, _, _, hc, _ => by simp at hc
  | _ :: _, [], _, _, _, k, _, _, _, hv => by simp at hv
  | c :: cs, v :: vs, rows, last, h, 0, c', vs', hc, hv => by
    simp at hc hv
    subst hc hv
    simp only [colsB, colB, Bool.and_eq_true, decide_eq_true_eq] at h
    exact ⟨h.1.1.2, h.1.1.1.1.1, h.1.2⟩
  | c :: cs, v :: vs, rows, last, h, k + 1, c', vs', hc, hv => by
    simp only [colsB, colB, Bool.and_eq_true, decide_eq_true_eq] at h
    obtain ⟨h1, h2, h3⟩ := colsB_len h.2 k c' vs' (by simpa using hc) (by simpa using hv)
    exact ⟨h1, by omega, h3⟩

/-- The place of a column's Id among a file's. -/
def byId (id : Int) (o : Col) : Bool := o.id == id
def fromOk (fc : List Col) (c : Col) : Bool := if 0 ≤ idx (byId c.id) fc then (match fc[(idx (byId c.id) fc).toNat]? with | some o => o.kind == c.kind | none => false) else true
def fromT (fc : List Col) (cs : List Col) : List Int := cs.map fun c => idx (byId c.id) fc
def toCell (vals : List (List Val)) (i : Nat) (at_ : Int) : Val := if 0 ≤ at_ then clean ((vals.getD at_.toNat []).getD i Val.zero) else Val.zero
def toRow (vals : List (List Val)) (fr : List Int) (i : Nat) : List Val := fr.map (toCell vals i)
def toR (s : Sch) (rows : Int) (fc : List Col) (vals : List (List Val)) : List (List Val) × Int :=
  if mayB s = true ∧ fileB rows fc vals = true ∧ s.cols.all (fromOk fc) = true then ((List.range rows.toNat).map (toRow vals (fromT fc s.cols)), 0) else ([], 1400)

def pickFr (cols : List Col) (names : List ByteArray) : List Int := names.map fun nm => idx (named nm) cols
def pickRow (fr : List Int) (vs : List Val) : List Val := fr.map fun k => clean (vs.getD k.toNat Val.zero)
def pickR (s : Sch) (rs : List (List Val)) (names : List ByteArray) : List (List Val) × Int :=
  if mayB s = true ∧ names.all (fun nm => decide (0 ≤ idx (named nm) s.cols)) = true ∧ rs.all (fun vs => vs.length == s.cols.length) = true then (rs.map (pickRow (pickFr s.cols names)), 0) else ([], 1400)
end Go.Proofs.YtfojdjmeefglcaaDoor
