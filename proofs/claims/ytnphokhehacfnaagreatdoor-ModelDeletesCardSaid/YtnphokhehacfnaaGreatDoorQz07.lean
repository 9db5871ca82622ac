/-
  Texts put together: D7, FlFld, D8, FlCol, Ls, Nm, De.
-/
import Derived.Deep.RegionHeld3
import Derived.Maps.AppendAt
import Derived.BigRegion
import Derived.Deep.DeepCutAuto
import Derived.Test.YtnphokhehacfnaaGreatDoorQz00
import Derived.Test.YtnphokhehacfnaaGreatDoorQz01
import Derived.Test.YtnphokhehacfnaaGreatDoorQz03
import Derived.Test.YtnphokhehacfnaaGreatDoorQz04
import Derived.Test.YtnphokhehacfnaaGreatDoorQz05
import Derived.Test.YtnphokhehacfnaaGreatDoorQz06
namespace Go.Proofs.YtnphokhehacfnaaGreatDoor
open Go.RowKit

/-- A table. -/
structure Tb where
  s : Sch
  sid : Int
  fs : List Fld
  rows : List (List Val)
/-- An operation. -/
structure Opp where
  kind : Int
  cols : List ByteArray
  rows : List (List Val)
  ns : List Nod
  col : ByteArray
  name : ByteArray
  ck : Int
  v : Val
  fs : List Fld
  agg : Int
def wholeUpto (cols : List Col) (vs : List Val) : Nat → Bool
  | 0 => true
  | k + 1 => wholeUpto cols vs k && (match cols[k]?, vs[k]? with | some c, some v => wholeB c.kind v | _, _ => true)
theorem wholeUpto_iff {cols : List Col} {vs : List Val} : ∀ {k : Nat}, wholeUpto cols vs k = true ↔ ∀ i, i < k → ∀ c v, cols[i]? = some c → vs[i]? = some v → wholeB c.kind v = true
  | 0 => by simp [wholeUpto]
  | k + 1 => by
    rw [wholeUpto, Bool.and_eq_true, wholeUpto_iff]
    constructor
    · rintro ⟨h1, h2⟩ i hi c v hc hv
      by_cases e : i = k
      · subst e; rw [hc, hv] at h2; exact h2
      · exact h1 i (by omega) c v hc hv
    · intro h
      refine ⟨fun i hi => h i (by omega), ?_⟩
      cases hc : cols[k]? with
      | none => rfl
      | some c =>
        cases hv : vs[k]? with
        | none => rfl
        | some v => exact h k (by omega) c v hc hv
def rowW (cols : List Col) (vs : List Val) : Bool := vs.length == cols.length && wholeUpto cols vs cols.length
def tabB (t : Tb) : Bool := mayB t.s && (specB t.sid t.fs t.s && (decide (t.rows.length ≤ 4096) && t.rows.all (rowW t.s.cols)))
/-- The columns' places, no one twice. -/
def placesP (cols : List Col) : List ByteArray → List Int → Option (List Int)
  | [], acc => some acc
  | n :: r, acc => if idx (named n) cols < 0 ∨ acc.contains (idx (named n) cols) = true then none else placesP cols r (acc ++ [idx (named n) cols])
def putP (n : Nat) (at_ : List Int) (vs : List Val) : List Val := (at_.zip vs).foldl (fun r p => r.set p.1.toNat p.2) (List.replicate n Val.zero)
def kindsP (cols : List Col) (at_ : List Int) (vs : List Val) : Bool := (at_.zip vs).all fun p => wholeB (cols.getD p.1.toNat ⟨0, .empty, 0⟩).kind p.2
def opRowB (n : Nat) (vs : List Val) : Bool := vs.length == n && vs.all valueB
def growP (t : Tb) (o : Opp) : Except Int Tb :=
  if 64 < o.rows.length then .error 9
  else if o.rows.all (opRowB o.cols.length) = false then .error 9
  else match placesP t.s.cols o.cols [] with
    | none => .error 5
    | some at_ =>
      if o.rows.all (kindsP t.s.cols at_) = false then .error 5
      else if 4096 < t.rows.length + o.rows.length then .error 7
      else .ok { t with rows := t.rows ++ o.rows.map (putP t.s.cols.length at_) }
def yesP (t : Tb) (ns : List Nod) : Except Int (List Int) := if checkE ns t.s ≠ 0 then .error 5 else .ok (selR ns t.s t.rows).1
def takeP (t : Tb) (o : Opp) : Except Int Tb :=
  if predB o.ns = false then .error 9
  else match yesP t o.ns with
    | .error c => .error c
    | .ok at_ => .ok { t with rows := (takeR t.rows (withoutR t.rows.length at_).1).1 }
def setRows (vss : List (List Val)) (col : Nat) (v : Val) (at_ : List Int) : List (List Val) := at_.foldl (fun l k => l.modify k.toNat fun vs => vs.set col v) vss
def updateP (t : Tb) (o : Opp) : Except Int Tb :=
  if predB o.ns = false ∨ valueB o.v = false then .error 9
  else match yesP t o.ns with
    | .error c => .error c
    | .ok at_ =>
      if idx (named o.col) t.s.cols < 0 then .error 5
      else if wholeB (t.s.cols.getD (t.s.cols.findIdx (named o.col)) ⟨0, .empty, 0⟩).kind o.v = false then .error 5
      else .ok { t with rows := setRows t.rows (t.s.cols.findIdx (named o.col)) o.v at_ }
def shapeP (t : Tb) (r : Sch × Int) : Except Int Tb := if r.2 ≠ 0 then .error 5 else .ok { t with s := r.1 }
def addcP (t : Tb) (o : Opp) : Except Int Tb :=
  match shapeP t (addR t.s o.name o.ck) with
  | .error c => .error c
  | .ok u => .ok { u with rows := t.rows.map (· ++ [Val.zero]) }
def dropP (t : Tb) (o : Opp) : Except Int Tb :=
  if idx (named o.col) t.s.cols < 0 then .error 5
  else if t.fs.any (fun f => f.source == (t.s.cols.getD (t.s.cols.findIdx (named o.col)) ⟨0, .empty, 0⟩).id) = true then .error 5
  else match shapeP t (dropR t.s o.col) with
    | .error c => .error c
    | .ok u => .ok { u with rows := t.rows.map (·.eraseIdx (t.s.cols.findIdx (named o.col))) }
def partP25 (t : Tb) (o : Opp) : Except Int Tb := if specB (wrap64 (t.sid + 1)) o.fs t.s = false then .error 5 else .ok { t with sid := t.sid + 1, fs := o.fs }
def runP (t : Tb) (o : Opp) : Except Int Tb :=
  if o.kind = 0 then growP t o
  else if o.kind = 1 ∨ o.kind = 2 then takeP t o
  else if o.kind = 3 then updateP t o
  else if o.kind = 4 then addcP t o
  else if o.kind = 5 then dropP t o
  else if o.kind = 6 then shapeP t (renameR t.s o.col o.name)
  else if o.kind = 7 then partP25 t o
  else .ok t
def applyP (t : Tb) (o : Opp) : Tb × Int :=
  if tabB t = false ∨ o.kind < 0 ∨ 8 < o.kind then (t, 9)
  else match runP t o with
    | .error c => (t, c)
    | .ok u => (u, 0)

/-- A table, with where it lies. -/
structure TbA where
  s : Sch
  As : Option Addr
  cs : Nat
  sid : Int
  fs : List Fld
  Af : Option Addr
  cf : Nat
  rs : List RowA
  Ar : Option Addr
  cr : Nat
def TbA.tb (t : TbA) : Tb := ⟨t.s, t.sid, t.fs, t.rs.map RowA.vs⟩
def TbA.cells (t : TbA) : List Value := [.int .i64 t.s.id, .slice t.As t.s.cols.length t.cs, .int .i64 t.s.next, .int .i64 t.sid, .slice t.Af t.fs.length t.cf, .slice t.Ar t.rs.length t.cr]
def TbA.val (t : TbA) : Value := .agg #[.int .i64 t.s.id, .slice t.As t.s.cols.length t.cs, .int .i64 t.s.next, .int .i64 t.sid, .slice t.Af t.fs.length t.cf, .slice t.Ar t.rs.length t.cr]
/-- A table that is read. -/
structure TbIn (w : World) (t : TbA) : Prop where
  sch : SchIn w t.s t.As t.cs
  flds : FsIn w t.fs t.Af t.cf
  fsm : t.fs.length ≤ 5864062014800
  rows : RowsIn w t.rs t.Ar t.cr
theorem SchIn.futD {w w' : World} {s : Sch} {A : Option Addr} {cap : Nat} (h : SchIn w s A cap) [k : Fut w w'] : SchIn w' s A cap := h.below k.below
theorem TbIn.fut {w w' : World} {t : TbA} (h : TbIn w t) [k : Fut w w'] : TbIn w' t := ⟨h.sch.futD, h.flds.fut, h.fsm, h.rows.fut⟩

theorem tabB_no {t : Tb} (h : mayB t.s = false ∨ specB t.sid t.fs t.s = false ∨ 4096 < t.rows.length ∨ t.rows.all (rowW t.s.cols) = false) : tabB t = false := by
  unfold tabB
  rcases h with h | h | h | h
  · rw [h]; rfl
  · rw [h]; simp
  · have : decide (t.rows.length ≤ 4096) = false := by simp; omega
    rw [this]; simp
  · rw [h]; simp
theorem tabB_iff {t : Tb} : tabB t = true ↔ mayB t.s = true ∧ specB t.sid t.fs t.s = true ∧ t.rows.length ≤ 4096 ∧ t.rows.all (rowW t.s.cols) = true := by
  unfold tabB
  rw [Bool.and_eq_true, Bool.and_eq_true, Bool.and_eq_true, decide_eq_true_iff]

/-- An operation, with where it lies. -/
structure OpA where
  kind : Int
  txn : ByteArray
  cols : List ByteArray
  Ac : Option Addr
  cc : Nat
  rows : List RowA
  Ar : Option Addr
  cr : Nat
  ns : List Nod
  An : Option Addr
  cn : Nat
  col : ByteArray
  name : ByteArray
  ck : Int
  v : Val
  fs : List Fld
  Af : Option Addr
  cf : Nat
  ver : Int
  time : Int
  agg : Int
def OpA.op (o : OpA) : Opp := ⟨o.kind, o.cols, o.rows.map RowA.vs, o.ns, o.col, o.name, o.ck, o.v, o.fs, o.agg⟩
def OpA.cells (o : OpA) : List Value := [.int .i64 o.kind, .string o.txn, .slice o.Ac o.cols.length o.cc, .slice o.Ar o.rows.length o.cr, .slice o.An o.ns.length o.cn, .string o.col, .string o.name, .int .i64 o.ck, .int .i64 o.v.kind, .int .i64 o.v.i, .bool o.v.b, .string o.v.s, .slice o.Af o.fs.length o.cf, .int .i64 o.ver, .int .i64 o.time, .int .i64 o.agg]
def FineD (v : Val) : Prop := v.s.size ≤ 9223372036854775000 ∧ -9223372036854775808 ≤ v.i ∧ v.i ≤ 9223372036854775807
structure OpIn (w : World) (o : OpA) : Prop where
  cols : SlAt w w.heap.size 1 o.Ac (strCells o.cols)
  clen : o.cols.length ≤ 8796093022207
  ccap : o.cols.length ≤ o.cc
  rows : RowsIn w o.rows o.Ar o.cr
  fine : ∀ r ∈ o.rows, ∀ v ∈ r.vs, FineD v
  prd : PrIn w o.ns o.An o.cn
  flds : FsIn w o.fs o.Af o.cf
  fsm : o.fs.length ≤ 5864062014800
  val : FineD o.v
  name : o.name.size ≤ 9223372036854775807
theorem OpIn.fut {w w' : World} {o : OpA} (h : OpIn w o) [k : Fut w w'] : OpIn w' o := ⟨h.cols.fut, h.clen, h.ccap, h.rows.fut, h.fine, h.prd.fut, h.flds.fut, h.fsm, h.val, h.name⟩
theorem At.zOp {w : World} {b : Nat} {x0 x1 x2 x3 x4 x5 x6 x7 x8 x9 x10 x11 x12 x13 x14 x15 : Value} (h : At w b 0 [x0, x1, x2, x3, x4, x5, x6, x7, x8, x9, x10, x11, x12, x13, x14, x15]) :
    w.cell? ⟨b, 0, none⟩ = some x0 ∧ w.cell? ⟨b, 1, none⟩ = some x1 ∧ w.cell? ⟨b, 2, none⟩ = some x2 ∧ w.cell? ⟨b, 3, none⟩ = some x3 ∧ w.cell? ⟨b, 4, none⟩ = some x4 ∧ w.cell? ⟨b, 5, none⟩ = some x5 ∧ w.cell? ⟨b, 6, none⟩ = some x6 ∧ w.cell? ⟨b, 7, none⟩ = some x7 ∧ w.cell? ⟨b, 8, none⟩ = some x8 ∧ w.cell? ⟨b, 9, none⟩ = some x9 ∧ w.cell? ⟨b, 10, none⟩ = some x10 ∧ w.cell? ⟨b, 11, none⟩ = some x11 ∧ w.cell? ⟨b, 12, none⟩ = some x12 ∧ w.cell? ⟨b, 13, none⟩ = some x13 ∧ w.cell? ⟨b, 14, none⟩ = some x14 ∧ w.cell? ⟨b, 15, none⟩ = some x15 := by
  refine ⟨?_, ?_, ?_, ?_, ?_, ?_, ?_, ?_, ?_, ?_, ?_, ?_, ?_, ?_, ?_, ?_⟩ <;> first | simpa using h 0 x0 rfl | simpa using h 1 x1 rfl | simpa using h 2 x2 rfl | simpa using h 3 x3 rfl | simpa using h 4 x4 rfl | simpa using h 5 x5 rfl | simpa using h 6 x6 rfl | simpa using h 7 x7 rfl | simpa using h 8 x8 rfl | simpa using h 9 x9 rfl | simpa using h 10 x10 rfl | simpa using h 11 x11 rfl | simpa using h 12 x12 rfl | simpa using h 13 x13 rfl | simpa using h 14 x14 rfl | simpa using h 15 x15 rfl
end Go.Proofs.YtnphokhehacfnaaGreatDoor

namespace Go.Proofs.YtnphokhehacfnaaGreatDoor
open Go.RowKit

theorem fld_fit (f : Fld) : f.cells.length = 3 ∧ ∀ u ∈ f.cells, u.oneCell' = true := by
  refine ⟨rfl, fun u hu => ?_⟩
  simp [Fld.cells] at hu
  rcases hu with rfl | rfl | rfl <;> rfl
theorem flds_fit (l : List Fld) : Fit 3 (l.map Fld.cells) := Fit.map fld_fit l
theorem eiFld : EI Tryz.prog 25 92 3 24 :=
  ⟨Tryz.underlying25, info_parts (show (Tryz.prog.info? 92).map (fun i => (i.zero, i.size, i.bytes)) = some (some (.agg #[.int .i64 0, .int .i64 0, .int .i64 0]), 3, 24) by kernel_rfl) |>.elim fun i h => ⟨i, _, h.1, h.2.1, h.2.2.1, h.2.2.2, rfl⟩, by decide, by decide⟩

/-- What marks the room behind a slice that is lent. -/
def Fld.mark : Fld := ⟨77777, 0, 0⟩

end Go.Proofs.YtnphokhehacfnaaGreatDoor

namespace Go.Proofs.YtnphokhehacfnaaGreatDoor
open Go.RowKit

def ob (A : Option Addr) : Option Nat := A.map Addr.block
theorem ob_eq (A : Option Addr) (n c : Nat) : (Value.slice A n c).ownBlock = ob A := by cases A <;> rfl
/-- Two slices in blocks of their own. -/
def Apart (A B : Option Addr) : Prop := ∀ g, ob A = some g → ob B ≠ some g
theorem Apart.symm {A B : Option Addr} (h : Apart A B) : Apart B A := fun g h1 h2 => h g h2 h1
/-- Rows that the call has made, no two of them with values in one block. -/
structure OwnD (w : World) (base : Nat) (A : Option Addr) (n c : Nat) (rs : List RowA) : Prop where
  rows : OwnR w base A n c rs
  diff : ∀ (i j : Nat) (x y : RowA), i ≠ j → rs[i]? = some x → rs[j]? = some y → Apart x.A y.A
theorem OwnD.nil_ (w : World) (base : Nat) : OwnD w base none 0 0 [] := ⟨⟨Own.nil_ _ _ _ _, fun r h => by simp at h⟩, fun i j x y _ hx => by simp at hx⟩
theorem OwnD.fut {w w' : World} {base : Nat} {A : Option Addr} {n c : Nat} {rs : List RowA} (h : OwnD w base A n c rs) [k : Fut w w'] : OwnD w' base A n c rs := ⟨h.rows.fut, h.diff⟩
/-- One row more, whose values were made behind all the others. -/
theorem OwnD.app {w w0 w' : World} {base B : Nat} {A A' : Option Addr} {n c n' c' : Nat} {rs : List RowA} {r : RowA} (h : OwnD w0 base A n c rs) (hf : Fut w0 w) (hB : w0.heap.size ≤ B) (hbB : base ≤ B) (hr : Own w B 36 4 (.slice r.A r.vs.length r.cap) (r.vs.map Val.cells))
    (ho : Own w' base 67 1 (.slice A' n' c') (rs.map RowA.cells ++ [r.cells])) (hg : w.grownBy w' (Value.slice A n c).ownBlock) : OwnD w' base A' n' c' (rs ++ [r]) := by
  refine ⟨OwnR.app (h.rows.fut (w' := w)) (hr.more hbB) ho hg, fun i j x y hij hx hy => ?_⟩
  have key : ∀ z ∈ rs, Apart z.A r.A := fun z hz g h1 h2 => by
    have a1 := ((h.rows.rows z hz).lt g (by rw [ob_eq]; exact h1)).2
    have a2 := (hr.lt g (by rw [ob_eq]; exact h2)).1
    omega
  rw [List.getElem?_append] at hx hy
  split at hx
  · split at hy
    · exact h.diff i j x y hij hx hy
    · rename_i h1 h2
      have : y = r := by
        have := List.mem_of_getElem? hy
        simpa using this
      subst this
      exact key x (List.mem_of_getElem? hx)
  · rename_i h1
    have ex : x = r := by simpa using List.mem_of_getElem? hx
    split at hy
    · subst ex
      exact (key y (List.mem_of_getElem? hy)).symm
    · rename_i h2
      have e1 := (List.getElem?_eq_some_iff.1 hx).1
      have e2 := (List.getElem?_eq_some_iff.1 hy).1
      simp at e1 e2
      omega
/-- Row k, where the rows are the call's own. -/
theorem OwnD.row {w : World} {base : Nat} {A : Option Addr} {n c k : Nat} {rs : List RowA} {r : RowA} (h : OwnD w base A n c rs) (hk : rs[k]? = some r) :
    ∃ g, A = some ⟨g, 0, none⟩ ∧ base ≤ g ∧ g < w.heap.size ∧ w.cell? ⟨g, k, none⟩ = some (.slice r.A r.vs.length r.cap) ∧ (∀ o, w.frozen? ⟨g, o, none⟩ = false) ∧ rs.length = n ∧ n ≤ c := by
  have hl : 0 < (rs.map RowA.cells).length := by have := (List.getElem?_eq_some_iff.1 hk).1; simp; omega
  obtain ⟨g, cur, hA, hn, hg, hb, hnc, _, _, _⟩ := h.rows.out.blk hl
  subst hA
  obtain ⟨g1, e1, _, h2, h3, h4, _⟩ := h.rows.out.put (rows_fit rs).len (k := k) (j := 0) (cs := r.cells) (by simp [hk]) (by decide)
  cases e1
  have h5 := At.l1 (by simpa [RowA.cells] using h3 : At w g k [.slice r.A r.vs.length r.cap])
  exact ⟨g, rfl, hg, h2, h5, h4, by simpa using hn, hnc⟩
/-- Four cells of a value. -/
def set4 (w : World) (g o : Nat) (v : Val) : World := (((w.setCell ⟨g, o, none⟩ (.int .i64 v.kind)).setCell ⟨g, o + 1, none⟩ (.int .i64 v.i)).setCell ⟨g, o + 2, none⟩ (.bool v.b)).setCell ⟨g, o + 3, none⟩ (.string v.s)
theorem set4_grown (w : World) (g o : Nat) (v : Val) : w.grownBy (set4 w g o v) (some g) := (((grown_setCell w g o _).trans (grown_setCell _ g (o + 1) _)).trans (grown_setCell _ g (o + 2) _)).trans (grown_setCell _ g (o + 3) _)
/-- A value of what the call owns is written over. -/
theorem Own.putV {w : World} {base n cap : Nat} {A : Option Addr} {l : List Val} (h : Own w base 36 4 (.slice A n cap) (l.map Val.cells)) {k : Nat} {x : Val} (hk : l[k]? = some x) :
    ∃ g, A = some ⟨g, 0, none⟩ ∧ base ≤ g ∧ g < w.heap.size ∧ At w g (k * 4) x.cells ∧ (∀ o, w.frozen? ⟨g, o, none⟩ = false) ∧ ∀ v : Val, Own (set4 w g (k * 4) v) base 36 4 (.slice A n cap) ((l.set k v).map Val.cells) := by
  have hkl := (List.getElem?_eq_some_iff.1 hk).1
  have hk1 : (l.map Val.cells)[k]? = some x.cells := by simp [hk]
  obtain ⟨g, rfl, h1, h2, h3, h4, p0⟩ := h.put (vals_fit l).len (j := 0) hk1 (by decide)
  refine ⟨g, rfl, h1, h2, h3, h4, fun v => ?_⟩
  have step : ∀ (W : World) (ys : List (List Value)) (cs : List Value) (j : Nat) (u : Value), Own W base 36 4 (.slice (some ⟨g, 0, none⟩) n cap) ys → (∀ y ∈ ys, y.length = 4) → ys[k]? = some cs → j < 4 → Own (W.setCell ⟨g, k * 4 + j, none⟩ u) base 36 4 (.slice (some ⟨g, 0, none⟩) n cap) (ys.set k (cs.set j u)) := fun W ys cs j u hW hl hy hj => by
    obtain ⟨g2, e, _, _, _, _, q⟩ := hW.put hl hy hj
    cases e
    exact q u
  have len4 : ∀ (ys : List (List Value)) (cs : List Value), (∀ y ∈ ys, y.length = 4) → cs.length = 4 → ∀ y ∈ ys.set k cs, y.length = 4 := fun ys cs hl hc y hy => by
    rcases List.mem_or_eq_of_mem_set hy with hy | rfl
    · exact hl y hy
    · exact hc
  have get : ∀ (ys : List (List Value)) (cs : List Value), k < ys.length → (ys.set k cs)[k]? = some cs := fun ys cs hl => by rw [List.getElem?_set, if_pos rfl, if_pos hl]
  have hL : k < (l.map Val.cells).length := by simpa using hkl
  have s0 := step w _ x.cells 0 (.int .i64 v.kind) h (vals_fit l).len hk1 (by decide)
  have l0 := len4 _ (x.cells.set 0 (.int .i64 v.kind)) (vals_fit l).len rfl
  have s1 := step _ _ _ 1 (.int .i64 v.i) s0 l0 (get _ _ hL) (by decide)
  have l1 := len4 _ ((x.cells.set 0 (.int .i64 v.kind)).set 1 (.int .i64 v.i)) l0 rfl
  have s2 := step _ _ _ 2 (.bool v.b) s1 l1 (get _ _ (by simpa using hL)) (by decide)
  have l2 := len4 _ (((x.cells.set 0 (.int .i64 v.kind)).set 1 (.int .i64 v.i)).set 2 (.bool v.b)) l1 rfl
  have s3 := step _ _ _ 3 (.string v.s) s2 l2 (get _ _ (by simpa using hL)) (by decide)
  simp only [List.set_set] at s3
  rw [List.map_set]
  exact s3
/-- A value of row k is written over. -/
theorem OwnD.putV {w : World} {base : Nat} {A : Option Addr} {n c k j : Nat} {rs : List RowA} {r : RowA} {x : Val} (h : OwnD w base A n c rs) (hk : rs[k]? = some r) (hj : r.vs[j]? = some x) :
    ∃ g, r.A = some ⟨g, 0, none⟩ ∧ base ≤ g ∧ g < w.heap.size ∧ At w g (j * 4) x.cells ∧ (∀ o, w.frozen? ⟨g, o, none⟩ = false) ∧ ∀ v : Val, OwnD (set4 w g (j * 4) v) base A n c (rs.set k ⟨r.A, r.cap, r.vs.set j v⟩) := by
  have hkl := (List.getElem?_eq_some_iff.1 hk).1
  obtain ⟨g, hA, h1, h2, h3, h4, p⟩ := (h.rows.rows r (List.mem_of_getElem? hk)).putV hj
  refine ⟨g, hA, h1, h2, h3, h4, fun v => ?_⟩
  have hgr := set4_grown w g (j * 4) v
  have hog : ob r.A = some g := by rw [hA]; rfl
  have ho := h.rows.out.grown_other hgr fun q hq hh => own_ne h.rows.out (h.rows.rows r (List.mem_of_getElem? hk)) (by decide) q hq (by rw [ob_eq, hog]; exact hh)
  have ho2 : (rs.set k ⟨r.A, r.cap, r.vs.set j v⟩).map RowA.cells = rs.map RowA.cells := by
    rw [List.map_set]
    apply List.ext_getElem?
    intro i
    rw [List.getElem?_set]
    split
    · rename_i e
      subst e
      simp [hkl, RowA.cells, (List.getElem?_eq_some_iff.1 hk).2]
    · rfl
  refine ⟨⟨by rw [ho2]; exact ho, fun z hz => ?_⟩, fun i m x' y hij hx hy => ?_⟩
  · obtain ⟨i, hi⟩ := List.mem_iff_getElem?.1 hz
    rw [List.getElem?_set] at hi
    split at hi
    · injection hi with hi
      subst hi
      have := p v
      simpa using this
    · rename_i e
      exact (h.rows.rows z (List.mem_of_getElem? hi)).grown_other hgr fun q hq hh => h.diff i k z r (fun e2 => e e2.symm) hi hk q (by rw [← ob_eq z.A z.vs.length z.cap]; exact hq) (by rw [hog]; exact hh)
  · have ad : ∀ (m : Nat) (z : RowA), (rs.set k ⟨r.A, r.cap, r.vs.set j v⟩)[m]? = some z → ∃ z', rs[m]? = some z' ∧ z'.A = z.A := fun m z hz => by
      rw [List.getElem?_set] at hz
      split at hz
      · rename_i e
        injection hz with hz
        subst hz
        subst e
        exact ⟨r, hk, rfl⟩
      · exact ⟨z, hz, rfl⟩
    obtain ⟨x2, hx2, ex⟩ := ad i x' hx
    obtain ⟨y2, hy2, ey⟩ := ad m y hy
    rw [← ex, ← ey]
    exact h.diff i m x2 y2 hij hx2 hy2

/-- A table of the call's own, made from block base on. -/
structure TbOwn (w : World) (base : Nat) (t : TbA) : Prop where
  cols : Own w base 90 3 (.slice t.As t.s.cols.length t.cs) (t.s.cols.map Col.cells)
  ccap : t.s.cols.length ≤ t.cs
  flds : Own w base 92 3 (.slice t.Af t.fs.length t.cf) (t.fs.map Fld.cells)
  rows : OwnD w base t.Ar t.rs.length t.cr t.rs
/-- The same, of rows that may share blocks. -/
structure TbOwnR (w : World) (base : Nat) (t : TbA) : Prop where
  cols : Own w base 90 3 (.slice t.As t.s.cols.length t.cs) (t.s.cols.map Col.cells)
  flds : Own w base 92 3 (.slice t.Af t.fs.length t.cf) (t.fs.map Fld.cells)
  rows : OwnR w base t.Ar t.rs.length t.cr t.rs
theorem TbOwn.r {w : World} {base : Nat} {t : TbA} (h : TbOwn w base t) : TbOwnR w base t := ⟨h.cols, h.flds, h.rows.rows⟩
theorem TbOwnR.fut {w w' : World} {base : Nat} {t : TbA} (h : TbOwnR w base t) [k : Fut w w'] : TbOwnR w' base t := ⟨h.cols.fut, h.flds.fut, h.rows.fut⟩
theorem TbOwn.fut {w w' : World} {base : Nat} {t : TbA} (h : TbOwn w base t) [k : Fut w w'] : TbOwn w' base t := ⟨h.cols.fut, h.ccap, h.flds.fut, h.rows.fut⟩
/-- What a table of the call's own says of sizes. -/
structure TbFine (t : TbA) : Prop where
  clen : t.s.cols.length ≤ 4398046511102
  names : ∀ c ∈ t.s.cols, c.name.size ≤ 9223372036854775807
  flen : t.fs.length ≤ 5864062014800
  rlen : t.rs.length ≤ 5864062014800
  vals : ∀ vs ∈ t.rs.map RowA.vs, vs.length ≤ 3518437208780 ∧ ∀ v ∈ vs, v.s.size ≤ 9223372036854775807
theorem TbOwnR.tin {w : World} {base : Nat} {t : TbA} (h : TbOwnR w base t) (hf : TbFine t) : TbIn w t := by
  obtain ⟨A1, c1, e1, h1, h2, h3, _⟩ := h.cols.slice (cols_fit t.s.cols).len (by simp : (t.s.cols.map Col.cells).length = t.s.cols.length)
  obtain ⟨A2, c2, e2, k1, k2, k3, _⟩ := h.flds.slice (flds_fit t.fs).len (by simp : (t.fs.map Fld.cells).length = t.fs.length)
  injection e1 with a1 a2 a3
  injection e2 with b1 b2 b3
  exact ⟨⟨by rw [a3]; exact h1, by rw [a3]; simpa [maxLen] using h2, hf.clen, by rw [a1]; exact h3, hf.names⟩, ⟨by rw [b3]; exact k1, by rw [b3]; simpa [maxLen] using k2, by have := hf.flen; omega, by rw [b1]; exact k3⟩, hf.flen, h.rows.rin hf.rlen hf.vals⟩
theorem TbIn.fine {w : World} {t : TbA} (h : TbIn w t) : TbFine t :=
  ⟨h.sch.len, h.sch.names, h.fsm, h.rows.hcapm, fun vs hvs => by obtain ⟨r, hr, rfl⟩ := List.mem_map.1 hvs; exact ⟨(h.rows.rows r hr).hcapm, (h.rows.rows r hr).strs⟩⟩

/-- What the doer's functions may turn: blocks from g on, and of those that were there only the table T, rows and values. -/
structure Mt (g T : Nat) (w w' : World) : Prop where
  below : Below g w w'
  keep : ∀ (b : Nat) (e : TypeId) (cur : List Value), b ≠ T → e ≠ 36 → e ≠ 67 → Blk w b e cur → Blk w' b e cur
theorem Mt.refl (g T : Nat) (w : World) : Mt g T w w := ⟨Below.refl _ _, fun _ _ _ _ _ _ h => h⟩
theorem Mt.trans {g T : Nat} {w w' w'' : World} (h : Mt g T w w') (k : Mt g T w' w'') : Mt g T w w'' := ⟨h.below.trans k.below, fun b e cur h1 h2 h3 hb => k.keep b e cur h1 h2 h3 (h.keep b e cur h1 h2 h3 hb)⟩
theorem Mt.step {g T : Nat} {w w' : World} (hg : g ≤ w.heap.size) (h : Below w.heap.size w w') : Mt g T w w' := ⟨h.mono hg, fun _ _ _ _ _ _ hb => hb.below h hb.lt⟩
/-- A cell of the table is stored. -/
theorem Mt.cell {g T : Nat} (w : World) (hT : g ≤ T) (i : Nat) (u : Value) : Mt g T w (w.setCell ⟨T, i, none⟩ u) := ⟨(Below.refl _ _).setCell (p := ⟨T, i, none⟩) hT u, fun _ _ _ h1 _ _ hb => hb.far (p := ⟨T, i, none⟩) h1 u⟩
/-- A row or a value of the table's own is turned. -/
theorem Mt.grown {g T q : Nat} {e : TypeId} {cur : List Value} {w w' : World} (hq : g ≤ q) (hb : Blk w q e cur) (he : e = 36 ∨ e = 67) (h : w.grownBy w' (some q)) : Mt g T w w' := by
  refine ⟨⟨h.os, h.tape, h.output, h.size, fun k hk => ?_⟩, fun _ e' cur' _ h2 h3 hb' => hb'.grown h fun hh => ?_⟩
  · by_cases hk2 : k < w.heap.size
    · exact h.block k hk2 (fun hh => by injection hh with hh; omega)
    · exact absurd hb.lt (by omega)
  · injection hh with hh
    subst hh
    have := hb'.ne_ hb
    rcases he with rfl | rfl
    · exact this h2 rfl
    · exact this h3 rfl
/-- A thrown code's world, or what is done. -/
def RunR (g T : Nat) (w : World) (r : Except Int Tb) (e : Ending) (w' : World) : Prop :=
  Mt g T w w' ∧ match r with
    | .error c => e = .panicked [{ v := faultM c, recovered := false }]
    | .ok u => e = .returned (.tuple #[]) ∧ ∃ t' : TbA, t'.tb = u ∧ Blk w' T 30 t'.cells ∧ TbOwnR w' g t'
/-- The doer, its table, its operation. -/
structure Doer (w : World) (g D T O : Nat) (t : TbA) (o : OpA) : Prop where
  d : Blk w D 86 [.pointer (some ⟨T, 0, none⟩), .pointer (some ⟨O, 0, none⟩)]
  tb : Blk w T 30 t.cells
  op : Blk w O 38 o.cells
  own : TbOwn w g t
  gT : g ≤ T
theorem Doer.fut {w w' : World} {g D T O : Nat} {t : TbA} {o : OpA} (h : Doer w g D T O t o) [k : Fut w w'] : Doer w' g D T O t o := ⟨h.d.fut, h.tb.fut, h.op.fut, h.own.fut, h.gT⟩
end Go.Proofs.YtnphokhehacfnaaGreatDoor

namespace Go.Proofs.YtnphokhehacfnaaGreatDoor
open Go.RowKit

/-- What marks the room behind a slice that is lent. -/
def Col.mark : Col := ⟨77777, .empty, 0⟩

end Go.Proofs.YtnphokhehacfnaaGreatDoor

namespace Go.Proofs.YtnphokhehacfnaaGreatDoor
open Go.RowKit

/-- A schema whose columns lie in a place with marked room behind them. -/
structure LentS (w : World) (s : Sch) (A : Option Addr) (c : Nat) : Prop where
  room : s.cols.length + 2 ≤ c
  capm : c ≤ 9223372036854775807
  len : s.cols.length ≤ 4398046511102
  at_ : SlAt w w.heap.size 3 A ((s.cols ++ [Col.mark, Col.mark]).map Col.cells)
  names : ∀ c ∈ s.cols, c.name.size ≤ 9223372036854775807
end Go.Proofs.YtnphokhehacfnaaGreatDoor

namespace Go.Proofs.YtnphokhehacfnaaGreatDoor
open Go.RowKit

end Go.Proofs.YtnphokhehacfnaaGreatDoor
namespace Go.Proofs.YtnphokhehacfnaaGreatDoor
open Go.RowKit

end Go.Proofs.YtnphokhehacfnaaGreatDoor
namespace Go.Proofs.YtnphokhehacfnaaGreatDoor
open Go.RowKit

end Go.Proofs.YtnphokhehacfnaaGreatDoor
namespace Go.Proofs.YtnphokhehacfnaaGreatDoor
open Go.RowKit

end Go.Proofs.YtnphokhehacfnaaGreatDoor
namespace Go.Proofs.YtnphokhehacfnaaGreatDoor
open Go.RowKit

end Go.Proofs.YtnphokhehacfnaaGreatDoor
namespace Go.Proofs.YtnphokhehacfnaaGreatDoor
open Go.RowKit

theorem addR_inv {s : Sch} (h : mayB s = true) : s.id + 1 ≤ 2147483648 ∧ 0 ≤ s.id ∧ s.next + 1 ≤ 2147483648 ∧ 1 ≤ s.next ∧ s.cols.length ≤ 12 := by
  obtain ⟨h1, h2, h3, h4, h5, h6⟩ := mayB_head h
  exact ⟨by omega, h1, by omega, h5, h4⟩

end Go.Proofs.YtnphokhehacfnaaGreatDoor
namespace Go.Proofs.YtnphokhehacfnaaGreatDoor
open Go.RowKit

end Go.Proofs.YtnphokhehacfnaaGreatDoor
namespace Go.Proofs.YtnphokhehacfnaaGreatDoor
open Go.RowKit

end Go.Proofs.YtnphokhehacfnaaGreatDoor
namespace Go.Proofs.YtnphokhehacfnaaGreatDoor
open Go.RowKit

end Go.Proofs.YtnphokhehacfnaaGreatDoor
namespace Go.Proofs.YtnphokhehacfnaaGreatDoor
open Go.RowKit

end Go.Proofs.YtnphokhehacfnaaGreatDoor
namespace Go.Proofs.YtnphokhehacfnaaGreatDoor
open Go.RowKit

def str (l : List UInt8) : ByteArray := ⟨l.toArray⟩
def aw1 : Sch := ⟨0, [⟨1, str [97], 1⟩, ⟨2, str [98], 3⟩], 3⟩
def aw2 : Sch := ⟨1, [⟨1, str [97], 1⟩, ⟨2, str [98], 3⟩, ⟨3, str [99], 2⟩], 4⟩
def aw3 : Sch := ⟨2, [⟨2, str [98], 3⟩, ⟨3, str [99], 2⟩], 4⟩
def aw4 : Sch := ⟨3, [⟨2, str [97], 3⟩, ⟨3, str [99], 2⟩], 4⟩
end Go.Proofs.YtnphokhehacfnaaGreatDoor
namespace Go.Proofs.YtnphokhehacfnaaGreatDoor
open Go.RowKit

end Go.Proofs.YtnphokhehacfnaaGreatDoor

namespace Go.Proofs.YtnphokhehacfnaaGreatDoor
open Go.RowKit

/-- The places a predicate takes, or a thrown code. -/
def YesR (w : World) (r : Except Int (List Int)) (e : Ending) (w' : World) : Prop :=
  match r with
  | .error c => e = .panicked [{ v := faultM c, recovered := false }]
  | .ok l => ∃ (A' : Option Addr) (c' : Nat), e = .returned (.slice A' l.length c') ∧ Own w' w.heap.size 3 1 (.slice A' l.length c') (intCells l)
set_option maxRecDepth 100000 in
set_option maxHeartbeats 8000000 in
theorem yes_any {w1 : World} (g D T O : Nat) (t : TbA) (o : OpA) (w : World) (h : Doer w g D T O t o) (ho : OpIn w1 o) [f1 : Fut w1 w] (hf : TbFine t) :
    Calls Tryz.prog 124 #[.pointer (some ⟨D, 0, none⟩)] w fun e w' => YesR w (yesP t.tb o.ns) e w' ∧ Step w w' := by
  have hin := h.own.r.tin hf
  have CK := fun w' [Fut w1 w'] [Fut w w'] => pcheck_any o.ns o.An o.cn t.s t.As t.cs w' ho.prd hin.sch
  have SR := fun w' [Fut w1 w'] [Fut w w'] => pselRows_any o.ns o.An o.cn t.s t.As t.cs t.rs t.Ar t.cr w' ho.prd hin.sch hin.rows
  unfold Sch.val at CK SR
  have HD := hide h
  obtain ⟨R, hR⟩ : ∃ R, yesP t.tb o.ns = R := ⟨_, rfl⟩
  have HR := hide hR
  rw [hR]
  clear hR h hin
  obtain ⟨d0, d1⟩ := At.z2 (HD.out.d.fut (w' := w)).at0
  have ld := (HD.out.d.fut (w' := w)).lt
  obtain ⟨t0, t1, t2, t3, t4, t5⟩ := At.z6 (HD.out.tb.fut (w' := w)).at0
  have lt_ := (HD.out.tb.fut (w' := w)).lt
  have ft_ := (HD.out.tb.fut (w' := w)).free
  obtain ⟨o0, o1, o2, o3, o4, o5, o6, o7, o8, o9, o10, o11, o12, o13, o14, o15⟩ := At.zOp (HD.out.op.fut (w' := w)).at0
  have lo := (HD.out.op.fut (w' := w)).lt
  unfold TbA.cells at *
  by_cases hc : checkE o.ns t.s = 0
  · have HY : Hid (R = .ok (selR o.ns t.s (t.rs.map RowA.vs)).1) := by show _ = _; rw [← HR.out, yesP, if_neg (by show ¬ checkE o.ns t.s ≠ 0; omega)]; rfl
    rw [hc] at CK
    have CK := hide CK; have SR := hide SR
    clear hc
    go_enter Tryz.func124, Tryz.ntmps124
    go_upto_region 1 with fail
    refine wp_region_held_drew (S := (fun w' => Step w w' ∧ (∀ b o, b < w.heap.size → w'.cell? ⟨b, o, none⟩ = w.cell? ⟨b, o, none⟩))) (by kernel_rfl) (by (try dsimp only); (first | exact ⟨hS1, hS2⟩ | exact ⟨Step.of, (bcell (fut _ _)).1⟩)) (fun hHeld => ?_)
    refine wpAnyH_take (i := 0) (oi := ⟨some 5, _, _, _, _, _⟩) (v := ?_) rfl (by kernel_rfl) (by kernel_rfl) (by kernel_rfl) (fun _ _ _ h => h) (Or.inl ⟨by rfl, ?_⟩) (by assumption) ?_
    rotate_left
    · ((intro w hSw); (try dsimp only at hSw); go_simp; (try with_reducible rfl))
    (try simp only [Act.put, List.setIfInBounds_toArray, List.set_cons_zero, List.set_cons_succ])
    refine wpAnyH_take (i := 7) (oi := ⟨some 12, _, _, _, _, _⟩) (v := ?_) rfl (by kernel_rfl) (by kernel_rfl) (by kernel_rfl) (fun _ _ _ h => h) (Or.inl ⟨by rfl, ?_⟩) (by assumption) ?_
    rotate_left
    · ((intro w hSw); (try dsimp only at hSw); go_simp; (try with_reducible rfl))
    (try simp only [Act.put, List.setIfInBounds_toArray, List.set_cons_zero, List.set_cons_succ])
    refine wpAnyH_take (i := 1) (oi := ⟨some 6, _, _, _, _, _⟩) (v := ?_) rfl (by kernel_rfl) (by kernel_rfl) (by kernel_rfl) (fun _ _ _ h => h) (Or.inl ⟨by rfl, ?_⟩) (by assumption) ?_
    rotate_left
    · ((intro w hSw); (try dsimp only at hSw); go_simp; (try with_reducible rfl))
    (try simp only [Act.put, List.setIfInBounds_toArray, List.set_cons_zero, List.set_cons_succ])
    refine wpAnyH_take (i := 8) (oi := ⟨some 13, _, _, _, _, _⟩) (v := ?_) rfl (by kernel_rfl) (by kernel_rfl) (by kernel_rfl) (fun _ _ _ h => h) (Or.inl ⟨by rfl, ?_⟩) (by assumption) ?_
    rotate_left
    · ((intro w hSw); (try dsimp only at hSw); go_simp; (try with_reducible rfl))
    (try simp only [Act.put, List.setIfInBounds_toArray, List.set_cons_zero, List.set_cons_succ])
    refine wpAnyH_take (i := 2) (oi := ⟨some 7, _, _, _, _, _⟩) (v := ?_) rfl (by kernel_rfl) (by kernel_rfl) (by kernel_rfl) (fun _ _ _ h => h) (Or.inl ⟨by rfl, ?_⟩) (by assumption) ?_
    rotate_left
    · ((intro w hSw); (try dsimp only at hSw); go_simp; (try with_reducible rfl))
    (try simp only [Act.put, List.setIfInBounds_toArray, List.set_cons_zero, List.set_cons_succ])
    refine wpAnyH_take (i := 9) (oi := ⟨some 14, _, _, _, _, _⟩) (v := ?_) rfl (by kernel_rfl) (by kernel_rfl) (by kernel_rfl) (fun _ _ _ h => h) (Or.inl ⟨by rfl, ?_⟩) (by assumption) ?_
    rotate_left
    · ((intro w hSw); (try dsimp only at hSw); go_simp; (try with_reducible rfl))
    (try simp only [Act.put, List.setIfInBounds_toArray, List.set_cons_zero, List.set_cons_succ])
    refine wpAnyH_take (i := 3) (oi := ⟨some 8, _, _, _, _, _⟩) (v := ?_) rfl (by kernel_rfl) (by kernel_rfl) (by kernel_rfl) (fun _ _ _ h => h) (Or.inl ⟨by rfl, ?_⟩) (by assumption) ?_
    rotate_left
    · ((intro w hSw); (try dsimp only at hSw); go_simp; (try with_reducible rfl))
    (try simp only [Act.put, List.setIfInBounds_toArray, List.set_cons_zero, List.set_cons_succ])
    refine wpAnyH_take (i := 10) (oi := ⟨some 15, _, _, _, _, _⟩) (v := ?_) rfl (by kernel_rfl) (by kernel_rfl) (by kernel_rfl) (fun _ _ _ h => h) (Or.inl ⟨by rfl, ?_⟩) (by assumption) ?_
    rotate_left
    · ((intro w hSw); (try dsimp only at hSw); go_simp; (try with_reducible rfl))
    (try simp only [Act.put, List.setIfInBounds_toArray, List.set_cons_zero, List.set_cons_succ])
    refine wpAnyH_take (i := 4) (oi := ⟨some 9, _, _, _, _, _⟩) (v := ?_) rfl (by kernel_rfl) (by kernel_rfl) (by kernel_rfl) (fun _ _ _ h => h) (Or.inl ⟨by rfl, ?_⟩) (by assumption) ?_
    rotate_left
    · ((intro w hSw); (try dsimp only at hSw); go_simp; (try with_reducible rfl))
    (try simp only [Act.put, List.setIfInBounds_toArray, List.set_cons_zero, List.set_cons_succ])
    refine wpAnyH_take (i := 11) (oi := ⟨some 16, _, _, _, _, _⟩) (v := ?_) rfl (by kernel_rfl) (by kernel_rfl) (by kernel_rfl) (fun _ _ _ h => h) (Or.inl ⟨by rfl, ?_⟩) (by assumption) ?_
    rotate_left
    · ((intro w hSw); (try dsimp only at hSw); go_simp; (try with_reducible rfl))
    (try simp only [Act.put, List.setIfInBounds_toArray, List.set_cons_zero, List.set_cons_succ])
    refine wpAnyH_take (i := 5) (oi := ⟨some 10, _, _, _, _, _⟩) (v := ?_) rfl (by kernel_rfl) (by kernel_rfl) (by kernel_rfl) (fun _ _ _ h => h) (Or.inl ⟨by rfl, ?_⟩) (by assumption) ?_
    rotate_left
    · ((intro w hSw); (try dsimp only at hSw); go_simp; (try with_reducible rfl))
    (try simp only [Act.put, List.setIfInBounds_toArray, List.set_cons_zero, List.set_cons_succ])
    refine wpAnyH_take (i := 12) (oi := ⟨some 17, _, _, _, _, _⟩) (v := ?_) rfl (by kernel_rfl) (by kernel_rfl) (by kernel_rfl) (fun _ _ _ h => h) (Or.inl ⟨by rfl, ?_⟩) (by assumption) ?_
    rotate_left
    · ((intro w hSw); (try dsimp only at hSw); go_simp; (try with_reducible rfl))
    (try simp only [Act.put, List.setIfInBounds_toArray, List.set_cons_zero, List.set_cons_succ])
    refine wpAnyH_take (i := 6) (oi := ⟨some 11, _, _, _, _, _⟩) (v := ?_) rfl (by kernel_rfl) (by kernel_rfl) (by kernel_rfl) (fun _ _ _ h => h) (Or.inl ⟨by rfl, ?_⟩) (by assumption) ?_
    rotate_left
    · ((intro w hSw); (try dsimp only at hSw); go_simp; (try with_reducible rfl))
    (try simp only [Act.put, List.setIfInBounds_toArray, List.set_cons_zero, List.set_cons_succ])
    refine wpAnyH_take (i := 13) (oi := ⟨some 18, _, _, _, _, _⟩) (v := ?_) rfl (by kernel_rfl) (by kernel_rfl) (by kernel_rfl) (fun _ _ _ h => h) (Or.inl ⟨by rfl, ?_⟩) (by assumption) ?_
    rotate_left
    · ((intro w hSw); (try dsimp only at hSw); go_simp; (try with_reducible rfl))
    (try simp only [Act.put, List.setIfInBounds_toArray, List.set_cons_zero, List.set_cons_succ])
    refine wpAnyH_ready (rs := [14]) (by kernel_rfl) (by simp) ?_
    refine AllReadyH.cons (o := ⟨some 19, _, _, _, _, _⟩) rfl (fun K hK => ?_) AllReadyH.nil
    obtain ⟨hS1, hS2⟩ := hHeld
    go_simp
    (go_at_call 158; (with_reducible refine (CK.out _).mono ?_); rintro e w5 ⟨rfl, hs5⟩)
    refine hK.out _ _ (by (try dsimp only); (first | exact ⟨hS1, hS2⟩ | exact ⟨Step.of, (bcell (fut _ _)).1⟩)) (fun hHeld => ?_)
    clear hK K
    (try simp only [Act.put, List.setIfInBounds_toArray, List.set_cons_zero, List.set_cons_succ])
    refine wpAnyH_take (i := 15) (oi := ⟨some 20, _, _, _, _, _⟩) (v := ?_) rfl (by kernel_rfl) (by kernel_rfl) (by kernel_rfl) (fun _ _ _ h => h) (Or.inl ⟨by rfl, ?_⟩) (by assumption) ?_
    rotate_left
    · ((intro w hSw); (try dsimp only at hSw); go_simp; (try with_reducible rfl))
    (try simp only [Act.put, List.setIfInBounds_toArray, List.set_cons_zero, List.set_cons_succ])
    refine wpAnyH_ready (rs := [16]) (by kernel_rfl) (by simp) ?_
    refine AllReadyH.cons (o := ⟨some 21, _, _, _, _, _⟩) rfl (fun K hK => ?_) AllReadyH.nil
    obtain ⟨hS1, hS2⟩ := hHeld
    go_simp
    (go_at_call 122; (with_reducible refine (throw_no _ _).mono ?_); rintro e w9 ⟨rfl, h9⟩; obtain rfl := h9.symm)
    refine hK.out _ _ (by (try dsimp only); (first | exact ⟨hS1, hS2⟩ | exact ⟨Step.of, (bcell (fut _ _)).1⟩)) (fun hHeld => ?_)
    clear hK K
    (try simp only [Act.put, List.setIfInBounds_toArray, List.set_cons_zero, List.set_cons_succ])
    refine wpAnyH_done (by kernel_rfl) ?_ _
    clear d0 d1 ld t0 t1 t2 t3 t4 t5 lt_ ft_ o0 o1 o2 o3 o4 o5 o6 o7 o8 o9 o10 o11 o12 o13 o14 o15 lo
    obtain ⟨wq, hwq⟩ : ∃ x : World, x = w5 := ⟨_, rfl⟩
    rw [← hwq] at hs5 ⊢
    clear hwq
    go_upto_region 2 with fail
    obtain ⟨d0, d1⟩ := At.z2 (HD.out.d.fut (w' := wq)).at0
    have ld := (HD.out.d.fut (w' := wq)).lt
    obtain ⟨t0, t1, t2, t3, t4, t5⟩ := At.z6 (HD.out.tb.fut (w' := wq)).at0
    have lt_ := (HD.out.tb.fut (w' := wq)).lt
    have ft_ := (HD.out.tb.fut (w' := wq)).free
    obtain ⟨o0, o1, o2, o3, o4, o5, o6, o7, o8, o9, o10, o11, o12, o13, o14, o15⟩ := At.zOp (HD.out.op.fut (w' := wq)).at0
    have lo := (HD.out.op.fut (w' := wq)).lt
    refine wp_region_held_drew (S := (fun w' => Step wq w' ∧ (∀ b o, b < wq.heap.size → w'.cell? ⟨b, o, none⟩ = wq.cell? ⟨b, o, none⟩))) (by kernel_rfl) (by (try dsimp only); (first | exact ⟨hS1, hS2⟩ | exact ⟨Step.of, (bcell (fut _ _)).1⟩)) (fun hHeld => ?_)
    refine wpAnyH_take (i := 0) (oi := ⟨some 23, _, _, _, _, _⟩) (v := ?_) rfl (by kernel_rfl) (by kernel_rfl) (by kernel_rfl) (fun _ _ _ h => h) (Or.inl ⟨by rfl, ?_⟩) (by assumption) ?_
    rotate_left
    · ((intro w hSw); (try dsimp only at hSw); go_simp; (try with_reducible rfl))
    (try simp only [Act.put, List.setIfInBounds_toArray, List.set_cons_zero, List.set_cons_succ])
    refine wpAnyH_take (i := 7) (oi := ⟨some 30, _, _, _, _, _⟩) (v := ?_) rfl (by kernel_rfl) (by kernel_rfl) (by kernel_rfl) (fun _ _ _ h => h) (Or.inl ⟨by rfl, ?_⟩) (by assumption) ?_
    rotate_left
    · ((intro w hSw); (try dsimp only at hSw); go_simp; (try with_reducible rfl))
    (try simp only [Act.put, List.setIfInBounds_toArray, List.set_cons_zero, List.set_cons_succ])
    refine wpAnyH_take (i := 14) (oi := ⟨some 37, _, _, _, _, _⟩) (v := ?_) rfl (by kernel_rfl) (by kernel_rfl) (by kernel_rfl) (fun _ _ _ h => h) (Or.inl ⟨by rfl, ?_⟩) (by assumption) ?_
    rotate_left
    · ((intro w hSw); (try dsimp only at hSw); go_simp; (try with_reducible rfl))
    (try simp only [Act.put, List.setIfInBounds_toArray, List.set_cons_zero, List.set_cons_succ])
    refine wpAnyH_take (i := 1) (oi := ⟨some 24, _, _, _, _, _⟩) (v := ?_) rfl (by kernel_rfl) (by kernel_rfl) (by kernel_rfl) (fun _ _ _ h => h) (Or.inl ⟨by rfl, ?_⟩) (by assumption) ?_
    rotate_left
    · ((intro w hSw); (try dsimp only at hSw); go_simp; (try with_reducible rfl))
    (try simp only [Act.put, List.setIfInBounds_toArray, List.set_cons_zero, List.set_cons_succ])
    refine wpAnyH_take (i := 8) (oi := ⟨some 31, _, _, _, _, _⟩) (v := ?_) rfl (by kernel_rfl) (by kernel_rfl) (by kernel_rfl) (fun _ _ _ h => h) (Or.inl ⟨by rfl, ?_⟩) (by assumption) ?_
    rotate_left
    · ((intro w hSw); (try dsimp only at hSw); go_simp; (try with_reducible rfl))
    (try simp only [Act.put, List.setIfInBounds_toArray, List.set_cons_zero, List.set_cons_succ])
    refine wpAnyH_take (i := 15) (oi := ⟨some 38, _, _, _, _, _⟩) (v := ?_) rfl (by kernel_rfl) (by kernel_rfl) (by kernel_rfl) (fun _ _ _ h => h) (Or.inl ⟨by rfl, ?_⟩) (by assumption) ?_
    rotate_left
    · ((intro w hSw); (try dsimp only at hSw); go_simp; (try with_reducible rfl))
    (try simp only [Act.put, List.setIfInBounds_toArray, List.set_cons_zero, List.set_cons_succ])
    refine wpAnyH_take (i := 2) (oi := ⟨some 25, _, _, _, _, _⟩) (v := ?_) rfl (by kernel_rfl) (by kernel_rfl) (by kernel_rfl) (fun _ _ _ h => h) (Or.inl ⟨by rfl, ?_⟩) (by assumption) ?_
    rotate_left
    · ((intro w hSw); (try dsimp only at hSw); go_simp; (try with_reducible rfl))
    (try simp only [Act.put, List.setIfInBounds_toArray, List.set_cons_zero, List.set_cons_succ])
    refine wpAnyH_take (i := 9) (oi := ⟨some 32, _, _, _, _, _⟩) (v := ?_) rfl (by kernel_rfl) (by kernel_rfl) (by kernel_rfl) (fun _ _ _ h => h) (Or.inl ⟨by rfl, ?_⟩) (by assumption) ?_
    rotate_left
    · ((intro w hSw); (try dsimp only at hSw); go_simp; (try with_reducible rfl))
    (try simp only [Act.put, List.setIfInBounds_toArray, List.set_cons_zero, List.set_cons_succ])
    refine wpAnyH_take (i := 16) (oi := ⟨some 39, _, _, _, _, _⟩) (v := ?_) rfl (by kernel_rfl) (by kernel_rfl) (by kernel_rfl) (fun _ _ _ h => h) (Or.inl ⟨by rfl, ?_⟩) (by assumption) ?_
    rotate_left
    · ((intro w hSw); (try dsimp only at hSw); go_simp; (try with_reducible rfl))
    (try simp only [Act.put, List.setIfInBounds_toArray, List.set_cons_zero, List.set_cons_succ])
    refine wpAnyH_take (i := 3) (oi := ⟨some 26, _, _, _, _, _⟩) (v := ?_) rfl (by kernel_rfl) (by kernel_rfl) (by kernel_rfl) (fun _ _ _ h => h) (Or.inl ⟨by rfl, ?_⟩) (by assumption) ?_
    rotate_left
    · ((intro w hSw); (try dsimp only at hSw); go_simp; (try with_reducible rfl))
    (try simp only [Act.put, List.setIfInBounds_toArray, List.set_cons_zero, List.set_cons_succ])
    refine wpAnyH_take (i := 10) (oi := ⟨some 33, _, _, _, _, _⟩) (v := ?_) rfl (by kernel_rfl) (by kernel_rfl) (by kernel_rfl) (fun _ _ _ h => h) (Or.inl ⟨by rfl, ?_⟩) (by assumption) ?_
    rotate_left
    · ((intro w hSw); (try dsimp only at hSw); go_simp; (try with_reducible rfl))
    (try simp only [Act.put, List.setIfInBounds_toArray, List.set_cons_zero, List.set_cons_succ])
    refine wpAnyH_take (i := 17) (oi := ⟨some 40, _, _, _, _, _⟩) (v := ?_) rfl (by kernel_rfl) (by kernel_rfl) (by kernel_rfl) (fun _ _ _ h => h) (Or.inl ⟨by rfl, ?_⟩) (by assumption) ?_
    rotate_left
    · ((intro w hSw); (try dsimp only at hSw); go_simp; (try with_reducible rfl))
    (try simp only [Act.put, List.setIfInBounds_toArray, List.set_cons_zero, List.set_cons_succ])
    refine wpAnyH_take (i := 4) (oi := ⟨some 27, _, _, _, _, _⟩) (v := ?_) rfl (by kernel_rfl) (by kernel_rfl) (by kernel_rfl) (fun _ _ _ h => h) (Or.inl ⟨by rfl, ?_⟩) (by assumption) ?_
    rotate_left
    · ((intro w hSw); (try dsimp only at hSw); go_simp; (try with_reducible rfl))
    (try simp only [Act.put, List.setIfInBounds_toArray, List.set_cons_zero, List.set_cons_succ])
    refine wpAnyH_take (i := 11) (oi := ⟨some 34, _, _, _, _, _⟩) (v := ?_) rfl (by kernel_rfl) (by kernel_rfl) (by kernel_rfl) (fun _ _ _ h => h) (Or.inl ⟨by rfl, ?_⟩) (by assumption) ?_
    rotate_left
    · ((intro w hSw); (try dsimp only at hSw); go_simp; (try with_reducible rfl))
    (try simp only [Act.put, List.setIfInBounds_toArray, List.set_cons_zero, List.set_cons_succ])
    refine wpAnyH_take (i := 18) (oi := ⟨some 41, _, _, _, _, _⟩) (v := ?_) rfl (by kernel_rfl) (by kernel_rfl) (by kernel_rfl) (fun _ _ _ h => h) (Or.inl ⟨by rfl, ?_⟩) (by assumption) ?_
    rotate_left
    · ((intro w hSw); (try dsimp only at hSw); go_simp; (try with_reducible rfl))
    (try simp only [Act.put, List.setIfInBounds_toArray, List.set_cons_zero, List.set_cons_succ])
    refine wpAnyH_take (i := 5) (oi := ⟨some 28, _, _, _, _, _⟩) (v := ?_) rfl (by kernel_rfl) (by kernel_rfl) (by kernel_rfl) (fun _ _ _ h => h) (Or.inl ⟨by rfl, ?_⟩) (by assumption) ?_
    rotate_left
    · ((intro w hSw); (try dsimp only at hSw); go_simp; (try with_reducible rfl))
    (try simp only [Act.put, List.setIfInBounds_toArray, List.set_cons_zero, List.set_cons_succ])
    refine wpAnyH_take (i := 12) (oi := ⟨some 35, _, _, _, _, _⟩) (v := ?_) rfl (by kernel_rfl) (by kernel_rfl) (by kernel_rfl) (fun _ _ _ h => h) (Or.inl ⟨by rfl, ?_⟩) (by assumption) ?_
    rotate_left
    · ((intro w hSw); (try dsimp only at hSw); go_simp; (try with_reducible rfl))
    (try simp only [Act.put, List.setIfInBounds_toArray, List.set_cons_zero, List.set_cons_succ])
    refine wpAnyH_take (i := 19) (oi := ⟨some 42, _, _, _, _, _⟩) (v := ?_) rfl (by kernel_rfl) (by kernel_rfl) (by kernel_rfl) (fun _ _ _ h => h) (Or.inl ⟨by rfl, ?_⟩) (by assumption) ?_
    rotate_left
    · ((intro w hSw); (try dsimp only at hSw); go_simp; (try with_reducible rfl))
    (try simp only [Act.put, List.setIfInBounds_toArray, List.set_cons_zero, List.set_cons_succ])
    refine wpAnyH_take (i := 6) (oi := ⟨some 29, _, _, _, _, _⟩) (v := ?_) rfl (by kernel_rfl) (by kernel_rfl) (by kernel_rfl) (fun _ _ _ h => h) (Or.inl ⟨by rfl, ?_⟩) (by assumption) ?_
    rotate_left
    · ((intro w hSw); (try dsimp only at hSw); go_simp; (try with_reducible rfl))
    (try simp only [Act.put, List.setIfInBounds_toArray, List.set_cons_zero, List.set_cons_succ])
    refine wpAnyH_take (i := 13) (oi := ⟨some 36, _, _, _, _, _⟩) (v := ?_) rfl (by kernel_rfl) (by kernel_rfl) (by kernel_rfl) (fun _ _ _ h => h) (Or.inl ⟨by rfl, ?_⟩) (by assumption) ?_
    rotate_left
    · ((intro w hSw); (try dsimp only at hSw); go_simp; (try with_reducible rfl))
    (try simp only [Act.put, List.setIfInBounds_toArray, List.set_cons_zero, List.set_cons_succ])
    refine wpAnyH_take (i := 20) (oi := ⟨some 43, _, _, _, _, _⟩) (v := ?_) rfl (by kernel_rfl) (by kernel_rfl) (by kernel_rfl) (fun _ _ _ h => h) (Or.inl ⟨by rfl, ?_⟩) (by assumption) ?_
    rotate_left
    · ((intro w hSw); (try dsimp only at hSw); go_simp; (try with_reducible rfl))
    (try simp only [Act.put, List.setIfInBounds_toArray, List.set_cons_zero, List.set_cons_succ])
    refine wpAnyH_ready (rs := [21]) (by kernel_rfl) (by simp) ?_
    refine AllReadyH.cons (o := ⟨some 44, _, _, _, _, _⟩) rfl (fun K hK => ?_) AllReadyH.nil
    obtain ⟨hS1, hS2⟩ := hHeld
    go_simp
    (go_at_call 159; (with_reducible refine (SR.out _).mono ?_); rintro e w6 ⟨A6, c6, rfl, ho6, hs6⟩; have HO6 := hide ho6; clear ho6)
    refine hK.out _ _ (by (try dsimp only); (first | exact ⟨hS1, hS2⟩ | exact ⟨Step.of, (bcell (fut _ _)).1⟩)) (fun hHeld => ?_)
    clear hK K
    (try simp only [Act.put, List.setIfInBounds_toArray, List.set_cons_zero, List.set_cons_succ])
    refine wpAnyH_take (i := 22) (oi := ⟨some 22, _, _, _, _, _⟩) (v := ?_) rfl (by kernel_rfl) (by kernel_rfl) (by kernel_rfl) (fun _ _ _ h => h) (Or.inl ⟨by rfl, ?_⟩) (by assumption) ?_
    rotate_left
    · ((intro w hSw); (try dsimp only at hSw); go_simp; (try with_reducible rfl))
    (try simp only [Act.put, List.setIfInBounds_toArray, List.set_cons_zero, List.set_cons_succ])
    refine wpAnyH_take (i := 23) (oi := ⟨some 45, _, _, _, _, _⟩) (v := ?_) rfl (by kernel_rfl) (by kernel_rfl) (by kernel_rfl) (fun _ _ _ h => h) (Or.inl ⟨by rfl, ?_⟩) (by assumption) ?_
    rotate_left
    · ((intro w hSw); (try dsimp only at hSw); go_simp; (try with_reducible rfl))
    (try simp only [Act.put, List.setIfInBounds_toArray, List.set_cons_zero, List.set_cons_succ])
    refine wpAnyH_take (i := 24) (oi := ⟨some 46, _, _, _, _, _⟩) (v := ?_) rfl (by kernel_rfl) (by kernel_rfl) (by kernel_rfl) (fun _ _ _ h => h) (Or.inl ⟨by rfl, ?_⟩) (by assumption) ?_
    rotate_left
    · ((intro w hSw); (try dsimp only at hSw); go_simp; (try with_reducible rfl))
    (try simp only [Act.put, List.setIfInBounds_toArray, List.set_cons_zero, List.set_cons_succ])
    refine wpAnyH_take (i := 25) (oi := ⟨some 3, _, _, _, _, _⟩) (v := ?_) rfl (by kernel_rfl) (by kernel_rfl) (by kernel_rfl) (fun _ _ _ h => h) (Or.inl ⟨by rfl, ?_⟩) (by assumption) ?_
    rotate_left
    · ((intro w hSw); (try dsimp only at hSw); go_simp; (try with_reducible rfl))
    (try simp only [Act.put, List.setIfInBounds_toArray, List.set_cons_zero, List.set_cons_succ])
    refine wpAnyH_take (i := 26) (oi := ⟨some 4, _, _, _, _, _⟩) (v := ?_) rfl (by kernel_rfl) (by kernel_rfl) (by kernel_rfl) (fun _ _ _ h => h) (Or.inl ⟨by rfl, ?_⟩) (by assumption) ?_
    rotate_left
    · ((intro w hSw); (try dsimp only at hSw); go_simp; (try with_reducible rfl))
    (try simp only [Act.put, List.setIfInBounds_toArray, List.set_cons_zero, List.set_cons_succ])
    refine wpAnyH_done (by kernel_rfl) ?_ _
    go_wp2_with fail
    go_ret
    exact ⟨by rw [HY.out]; exact ⟨A6, c6, rfl, HO6.out.more (fut w wq).size⟩, Step.of⟩
  · have HY : Hid (R = .error 5) := by show _ = _; rw [← HR.out, yesP, if_pos (by show checkE o.ns t.s ≠ 0; omega)]
    have hcb : (checkE o.ns t.s != 0) = true := bne_iff_ne.2 hc
    have CK := hide CK
    clear hc SR
    go_enter Tryz.func124, Tryz.ntmps124
    go_upto_region 1 with fail
    refine wp_region_held_drew (S := (fun w' => Step w w' ∧ (∀ b o, b < w.heap.size → w'.cell? ⟨b, o, none⟩ = w.cell? ⟨b, o, none⟩))) (by kernel_rfl) (by (try dsimp only); (first | exact ⟨hS1, hS2⟩ | exact ⟨Step.of, (bcell (fut _ _)).1⟩)) (fun hHeld => ?_)
    refine wpAnyH_take (i := 0) (oi := ⟨some 5, _, _, _, _, _⟩) (v := ?_) rfl (by kernel_rfl) (by kernel_rfl) (by kernel_rfl) (fun _ _ _ h => h) (Or.inl ⟨by rfl, ?_⟩) (by assumption) ?_
    rotate_left
    · ((intro w hSw); (try dsimp only at hSw); go_simp; (try with_reducible rfl))
    (try simp only [Act.put, List.setIfInBounds_toArray, List.set_cons_zero, List.set_cons_succ])
    refine wpAnyH_take (i := 7) (oi := ⟨some 12, _, _, _, _, _⟩) (v := ?_) rfl (by kernel_rfl) (by kernel_rfl) (by kernel_rfl) (fun _ _ _ h => h) (Or.inl ⟨by rfl, ?_⟩) (by assumption) ?_
    rotate_left
    · ((intro w hSw); (try dsimp only at hSw); go_simp; (try with_reducible rfl))
    (try simp only [Act.put, List.setIfInBounds_toArray, List.set_cons_zero, List.set_cons_succ])
    refine wpAnyH_take (i := 1) (oi := ⟨some 6, _, _, _, _, _⟩) (v := ?_) rfl (by kernel_rfl) (by kernel_rfl) (by kernel_rfl) (fun _ _ _ h => h) (Or.inl ⟨by rfl, ?_⟩) (by assumption) ?_
    rotate_left
    · ((intro w hSw); (try dsimp only at hSw); go_simp; (try with_reducible rfl))
    (try simp only [Act.put, List.setIfInBounds_toArray, List.set_cons_zero, List.set_cons_succ])
    refine wpAnyH_take (i := 8) (oi := ⟨some 13, _, _, _, _, _⟩) (v := ?_) rfl (by kernel_rfl) (by kernel_rfl) (by kernel_rfl) (fun _ _ _ h => h) (Or.inl ⟨by rfl, ?_⟩) (by assumption) ?_
    rotate_left
    · ((intro w hSw); (try dsimp only at hSw); go_simp; (try with_reducible rfl))
    (try simp only [Act.put, List.setIfInBounds_toArray, List.set_cons_zero, List.set_cons_succ])
    refine wpAnyH_take (i := 2) (oi := ⟨some 7, _, _, _, _, _⟩) (v := ?_) rfl (by kernel_rfl) (by kernel_rfl) (by kernel_rfl) (fun _ _ _ h => h) (Or.inl ⟨by rfl, ?_⟩) (by assumption) ?_
    rotate_left
    · ((intro w hSw); (try dsimp only at hSw); go_simp; (try with_reducible rfl))
    (try simp only [Act.put, List.setIfInBounds_toArray, List.set_cons_zero, List.set_cons_succ])
    refine wpAnyH_take (i := 9) (oi := ⟨some 14, _, _, _, _, _⟩) (v := ?_) rfl (by kernel_rfl) (by kernel_rfl) (by kernel_rfl) (fun _ _ _ h => h) (Or.inl ⟨by rfl, ?_⟩) (by assumption) ?_
    rotate_left
    · ((intro w hSw); (try dsimp only at hSw); go_simp; (try with_reducible rfl))
    (try simp only [Act.put, List.setIfInBounds_toArray, List.set_cons_zero, List.set_cons_succ])
    refine wpAnyH_take (i := 3) (oi := ⟨some 8, _, _, _, _, _⟩) (v := ?_) rfl (by kernel_rfl) (by kernel_rfl) (by kernel_rfl) (fun _ _ _ h => h) (Or.inl ⟨by rfl, ?_⟩) (by assumption) ?_
    rotate_left
    · ((intro w hSw); (try dsimp only at hSw); go_simp; (try with_reducible rfl))
    (try simp only [Act.put, List.setIfInBounds_toArray, List.set_cons_zero, List.set_cons_succ])
    refine wpAnyH_take (i := 10) (oi := ⟨some 15, _, _, _, _, _⟩) (v := ?_) rfl (by kernel_rfl) (by kernel_rfl) (by kernel_rfl) (fun _ _ _ h => h) (Or.inl ⟨by rfl, ?_⟩) (by assumption) ?_
    rotate_left
    · ((intro w hSw); (try dsimp only at hSw); go_simp; (try with_reducible rfl))
    (try simp only [Act.put, List.setIfInBounds_toArray, List.set_cons_zero, List.set_cons_succ])
    refine wpAnyH_take (i := 4) (oi := ⟨some 9, _, _, _, _, _⟩) (v := ?_) rfl (by kernel_rfl) (by kernel_rfl) (by kernel_rfl) (fun _ _ _ h => h) (Or.inl ⟨by rfl, ?_⟩) (by assumption) ?_
    rotate_left
    · ((intro w hSw); (try dsimp only at hSw); go_simp; (try with_reducible rfl))
    (try simp only [Act.put, List.setIfInBounds_toArray, List.set_cons_zero, List.set_cons_succ])
    refine wpAnyH_take (i := 11) (oi := ⟨some 16, _, _, _, _, _⟩) (v := ?_) rfl (by kernel_rfl) (by kernel_rfl) (by kernel_rfl) (fun _ _ _ h => h) (Or.inl ⟨by rfl, ?_⟩) (by assumption) ?_
    rotate_left
    · ((intro w hSw); (try dsimp only at hSw); go_simp; (try with_reducible rfl))
    (try simp only [Act.put, List.setIfInBounds_toArray, List.set_cons_zero, List.set_cons_succ])
    refine wpAnyH_take (i := 5) (oi := ⟨some 10, _, _, _, _, _⟩) (v := ?_) rfl (by kernel_rfl) (by kernel_rfl) (by kernel_rfl) (fun _ _ _ h => h) (Or.inl ⟨by rfl, ?_⟩) (by assumption) ?_
    rotate_left
    · ((intro w hSw); (try dsimp only at hSw); go_simp; (try with_reducible rfl))
    (try simp only [Act.put, List.setIfInBounds_toArray, List.set_cons_zero, List.set_cons_succ])
    refine wpAnyH_take (i := 12) (oi := ⟨some 17, _, _, _, _, _⟩) (v := ?_) rfl (by kernel_rfl) (by kernel_rfl) (by kernel_rfl) (fun _ _ _ h => h) (Or.inl ⟨by rfl, ?_⟩) (by assumption) ?_
    rotate_left
    · ((intro w hSw); (try dsimp only at hSw); go_simp; (try with_reducible rfl))
    (try simp only [Act.put, List.setIfInBounds_toArray, List.set_cons_zero, List.set_cons_succ])
    refine wpAnyH_take (i := 6) (oi := ⟨some 11, _, _, _, _, _⟩) (v := ?_) rfl (by kernel_rfl) (by kernel_rfl) (by kernel_rfl) (fun _ _ _ h => h) (Or.inl ⟨by rfl, ?_⟩) (by assumption) ?_
    rotate_left
    · ((intro w hSw); (try dsimp only at hSw); go_simp; (try with_reducible rfl))
    (try simp only [Act.put, List.setIfInBounds_toArray, List.set_cons_zero, List.set_cons_succ])
    refine wpAnyH_take (i := 13) (oi := ⟨some 18, _, _, _, _, _⟩) (v := ?_) rfl (by kernel_rfl) (by kernel_rfl) (by kernel_rfl) (fun _ _ _ h => h) (Or.inl ⟨by rfl, ?_⟩) (by assumption) ?_
    rotate_left
    · ((intro w hSw); (try dsimp only at hSw); go_simp; (try with_reducible rfl))
    (try simp only [Act.put, List.setIfInBounds_toArray, List.set_cons_zero, List.set_cons_succ])
    refine wpAnyH_ready (rs := [14]) (by kernel_rfl) (by simp) ?_
    refine AllReadyH.cons (o := ⟨some 19, _, _, _, _, _⟩) rfl (fun K hK => ?_) AllReadyH.nil
    obtain ⟨hS1, hS2⟩ := hHeld
    go_simp
    (go_at_call 158; (with_reducible refine (CK.out _).mono ?_); rintro e w5 ⟨rfl, hs5⟩)
    refine hK.out _ _ (by (try dsimp only); (first | exact ⟨hS1, hS2⟩ | exact ⟨Step.of, (bcell (fut _ _)).1⟩)) (fun hHeld => ?_)
    clear hK K
    (try simp only [Act.put, List.setIfInBounds_toArray, List.set_cons_zero, List.set_cons_succ])
    refine wpAnyH_take (i := 15) (oi := ⟨some 20, _, _, _, _, _⟩) (v := ?_) rfl (by kernel_rfl) (by kernel_rfl) (by kernel_rfl) (fun _ _ _ h => h) (Or.inl ⟨by rfl, ?_⟩) (by assumption) ?_
    rotate_left
    · ((intro w hSw); (try dsimp only at hSw); go_simp; (try with_reducible rfl))
    (try simp only [Act.put, List.setIfInBounds_toArray, List.set_cons_zero, List.set_cons_succ])
    refine wpAnyH_ready (rs := [16]) (by kernel_rfl) (by simp) ?_
    refine AllReadyH.cons (o := ⟨some 21, _, _, _, _, _⟩) rfl (fun K hK => ?_) AllReadyH.nil
    obtain ⟨hS1, hS2⟩ := hHeld
    go_simp
    (go_at_call 122; (with_reducible refine (throw_yes _ _).mono ?_); rintro e w9 ⟨rfl, h9⟩; obtain rfl := h9.symm)
    exact ⟨rfl, by rw [HY.out]; rfl, Step.of⟩
end Go.Proofs.YtnphokhehacfnaaGreatDoor

