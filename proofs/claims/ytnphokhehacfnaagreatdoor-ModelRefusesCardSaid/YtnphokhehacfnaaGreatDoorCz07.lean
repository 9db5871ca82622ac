/-
  Texts put together: D8, FlCol, Ls.
-/
import Derived.Maps.AppendAt
import Derived.Deep.RegionHeld3
import Derived.Test.YtnphokhehacfnaaGreatDoorCz01
import Derived.Test.YtnphokhehacfnaaGreatDoorCz04
import Derived.Test.YtnphokhehacfnaaGreatDoorCz06
namespace Go.Proofs.YtnphokhehacfnaaGreatDoor
open Go.RowKit

def ob (A : Option Addr) : Option Nat := A.map Addr.block
theorem ob_eq (A : Option Addr) (n c : Nat) : (Value.slice A n c).ownBlock = ob A := by cases A <;> rfl
/-- Two slices in blocks of their own. -/
def Apart (A B : Option Addr) : Prop := ∀ g, ob A = some g → ob B ≠ some g
theorem Apart.symm {A B : Option Addr} (h : Apart A B) : Apart B A := fun g h1 h2 => h g h2 h1
/-- Rows that the call has made, no two of them with values in one block. -/
structure OwnD (w : World) (base : Nat) (A : Option Addr) (n c : Nat) (rs : List RowA) : Prop where
  rows : OwnR w base A n c rs
  diff : ∀ (i j : Nat) (x y : RowA), i ≠ j → rs[i]? = some x → rs[j]? = some y → Apart x.A y.A
theorem OwnD.nil_ (w : World) (base : Nat) : OwnD w base none 0 0 [] := ⟨⟨Own.nil_ _ _ _ _, fun r h => by simp at h⟩, fun i j x y _ hx => by simp at hx⟩
theorem OwnD.fut {w w' : World} {base : Nat} {A : Option Addr} {n c : Nat} {rs : List RowA} (h : OwnD w base A n c rs) [k : Fut w w'] : OwnD w' base A n c rs := ⟨h.rows.fut, h.diff⟩
/-- One row more, whose values were made behind all the others. -/
theorem OwnD.app {w w0 w' : World} {base B : Nat} {A A' : Option Addr} {n c n' c' : Nat} {rs : List RowA} {r : RowA} (h : OwnD w0 base A n c rs) (hf : Fut w0 w) (hB : w0.heap.size ≤ B) (hbB : base ≤ B) (hr : Own w B 36 4 (.slice r.A r.vs.length r.cap) (r.vs.map Val.cells))
    (ho : Own w' base 67 1 (.slice A' n' c') (rs.map RowA.cells ++ [r.cells])) (hg : w.grownBy w' (Value.slice A n c).ownBlock) : OwnD w' base A' n' c' (rs ++ [r]) := by
  refine ⟨OwnR.app (h.rows.fut (w' := w)) (hr.more hbB) ho hg, fun i j x y hij hx hy => ?_⟩
  have key : ∀ z ∈ rs, Apart z.A r.A := fun z hz g h1 h2 => by
    have a1 := ((h.rows.rows z hz).lt g (by rw [ob_eq]; exact h1)).2
    have a2 := (hr.lt g (by rw [ob_eq]; exact h2)).1
    omega
  rw [List.getElem?_append] at hx hy
  split at hx
  · split at hy
    · exact h.diff i j x y hij hx hy
    · rename_i h1 h2
      have : y = r := by
        have := List.mem_of_getElem? hy
        simpa using this
      subst this
      exact key x (List.mem_of_getElem? hx)
  · rename_i h1
    have ex : x = r := by simpa using List.mem_of_getElem? hx
    split at hy
    · subst ex
      exact (key y (List.mem_of_getElem? hy)).symm
    · rename_i h2
      have e1 := (List.getElem?_eq_some_iff.1 hx).1
      have e2 := (List.getElem?_eq_some_iff.1 hy).1
      simp at e1 e2
      omega
/-- Row k, where the rows are the call's own. -/
theorem OwnD.row {w : World} {base : Nat} {A : Option Addr} {n c k : Nat} {rs : List RowA} {r : RowA} (h : OwnD w base A n c rs) (hk : rs[k]? = some r) :
    ∃ g, A = some ⟨g, 0, none⟩ ∧ base ≤ g ∧ g < w.heap.size ∧ w.cell? ⟨g, k, none⟩ = some (.slice r.A r.vs.length r.cap) ∧ (∀ o, w.frozen? ⟨g, o, none⟩ = false) ∧ rs.length = n ∧ n ≤ c := by
  have hl : 0 < (rs.map RowA.cells).length := by have := (List.getElem?_eq_some_iff.1 hk).1; simp; omega
  obtain ⟨g, cur, hA, hn, hg, hb, hnc, _, _, _⟩ := h.rows.out.blk hl
  subst hA
  obtain ⟨g1, e1, _, h2, h3, h4, _⟩ := h.rows.out.put (rows_fit rs).len (k := k) (j := 0) (cs := r.cells) (by simp [hk]) (by decide)
  cases e1
  have h5 := At.l1 (by simpa [RowA.cells] using h3 : At w g k [.slice r.A r.vs.length r.cap])
  exact ⟨g, rfl, hg, h2, h5, h4, by simpa using hn, hnc⟩
/-- A row's slice is put anew, its values by then lying otherwise. -/
theorem OwnD.setRow {w w1 : World} {base g : Nat} {n c k : Nat} {rs : List RowA} {r r' : RowA} (h : OwnD w base (some ⟨g, 0, none⟩) n c rs) (hk : rs[k]? = some r)
    (hg : w.grownBy w1 (ob r.A)) (hr' : Own w1 base 36 4 (.slice r'.A r'.vs.length r'.cap) (r'.vs.map Val.cells)) (hob : ob r'.A = ob r.A ∨ ∃ q, ob r'.A = some q ∧ w.heap.size ≤ q) :
    OwnD (w1.setCell ⟨g, k, none⟩ (.slice r'.A r'.vs.length r'.cap)) base (some ⟨g, 0, none⟩) n c (rs.set k r') := by
  have hkl := (List.getElem?_eq_some_iff.1 hk).1
  have hin : ∀ z ∈ rs, Own w base 36 4 (.slice z.A z.vs.length z.cap) (z.vs.map Val.cells) := h.rows.rows
  have hrm := List.mem_of_getElem? hk
  have ho1 : Own w1 base 67 1 (.slice (some ⟨g, 0, none⟩) n c) (rs.map RowA.cells) := h.rows.out.grown_other hg fun q hq hh => own_ne h.rows.out (hin r hrm) (by decide) q hq (by rw [ob_eq]; exact hh)
  obtain ⟨g1, e1, _, _, _, _, p1⟩ := ho1.put (rows_fit rs).len (k := k) (j := 0) (cs := r.cells) (by simp [hk]) (by decide)
  cases e1
  have o1 := p1 (.slice r'.A r'.vs.length r'.cap)
  have o1 : Own (w1.setCell ⟨g, k, none⟩ (.slice r'.A r'.vs.length r'.cap)) base 67 1 (.slice (some ⟨g, 0, none⟩) n c) ((rs.set k r').map RowA.cells) := by
    rw [List.map_set]
    simpa [RowA.cells] using o1
  have hgs := grown_setCell w1 g k (.slice r'.A r'.vs.length r'.cap)
  have hg1 : (Value.slice (some ⟨g, 0, none⟩ : Option Addr) n c).ownBlock = some g := rfl
  have far : ∀ z : RowA, Own w1 base 36 4 (.slice z.A z.vs.length z.cap) (z.vs.map Val.cells) → Own (w1.setCell ⟨g, k, none⟩ (.slice r'.A r'.vs.length r'.cap)) base 36 4 (.slice z.A z.vs.length z.cap) (z.vs.map Val.cells) := fun z hz =>
    hz.grown_other hgs fun q hq hh => own_ne hz ho1 (by decide) q hq (by rw [hg1]; exact hh)
  have oth : ∀ (i : Nat) (z : RowA), i ≠ k → rs[i]? = some z → Own w1 base 36 4 (.slice z.A z.vs.length z.cap) (z.vs.map Val.cells) := fun i z hi hz =>
    (hin z (List.mem_of_getElem? hz)).grown_other hg fun q hq hh => h.diff i k z r hi hz hk q (by rw [← ob_eq z.A z.vs.length z.cap]; exact hq) hh
  refine ⟨⟨o1, fun z hz => ?_⟩, fun i j x y hij hx hy => ?_⟩
  · obtain ⟨i, hi⟩ := List.mem_iff_getElem?.1 hz
    rw [List.getElem?_set] at hi
    split at hi
    · rename_i e
      injection hi with hi
      subst hi
      exact far _ hr'
    · rename_i e
      exact far _ (oth i z (fun e2 => e e2.symm) hi)
  · have ap : ∀ (m : Nat) (z : RowA), m ≠ k → rs[m]? = some z → Apart z.A r'.A := fun m z hm hz q h1 h2 => by
      rcases hob with e | ⟨q2, e, hq2⟩
      · exact h.diff m k z r hm hz hk q h1 (by rw [← e]; exact h2)
      · have := ((hin z (List.mem_of_getElem? hz)).lt q (by rw [ob_eq]; exact h1)).2
        rw [e] at h2
        injection h2 with h2
        omega
    rw [List.getElem?_set] at hx hy
    split at hx
    · rename_i e
      injection hx with hx
      subst hx
      rw [if_neg (by omega)] at hy
      exact (ap j y (by omega) hy).symm
    · rename_i e
      split at hy
      · rename_i e2
        injection hy with hy
        subst hy
        exact ap i x (by omega) hx
      · exact h.diff i j x y hij hx hy
/-- Four cells of a value. -/
def set4 (w : World) (g o : Nat) (v : Val) : World := (((w.setCell ⟨g, o, none⟩ (.int .i64 v.kind)).setCell ⟨g, o + 1, none⟩ (.int .i64 v.i)).setCell ⟨g, o + 2, none⟩ (.bool v.b)).setCell ⟨g, o + 3, none⟩ (.string v.s)
theorem set4_grown (w : World) (g o : Nat) (v : Val) : w.grownBy (set4 w g o v) (some g) := (((grown_setCell w g o _).trans (grown_setCell _ g (o + 1) _)).trans (grown_setCell _ g (o + 2) _)).trans (grown_setCell _ g (o + 3) _)
/-- A value of what the call owns is written over. -/
theorem Own.putV {w : World} {base n cap : Nat} {A : Option Addr} {l : List Val} (h : Own w base 36 4 (.slice A n cap) (l.map Val.cells)) {k : Nat} {x : Val} (hk : l[k]? = some x) :
    ∃ g, A = some ⟨g, 0, none⟩ ∧ base ≤ g ∧ g < w.heap.size ∧ At w g (k * 4) x.cells ∧ (∀ o, w.frozen? ⟨g, o, none⟩ = false) ∧ ∀ v : Val, Own (set4 w g (k * 4) v) base 36 4 (.slice A n cap) ((l.set k v).map Val.cells) := by
  have hkl := (List.getElem?_eq_some_iff.1 hk).1
  have hk1 : (l.map Val.cells)[k]? = some x.cells := by simp [hk]
  obtain ⟨g, rfl, h1, h2, h3, h4, p0⟩ := h.put (vals_fit l).len (j := 0) hk1 (by decide)
  refine ⟨g, rfl, h1, h2, h3, h4, fun v => ?_⟩
  have step : ∀ (W : World) (ys : List (List Value)) (cs : List Value) (j : Nat) (u : Value), Own W base 36 4 (.slice (some ⟨g, 0, none⟩) n cap) ys → (∀ y ∈ ys, y.length = 4) → ys[k]? = some cs → j < 4 → Own (W.setCell ⟨g, k * 4 + j, none⟩ u) base 36 4 (.slice (some ⟨g, 0, none⟩) n cap) (ys.set k (cs.set j u)) := fun W ys cs j u hW hl hy hj => by
    obtain ⟨g2, e, _, _, _, _, q⟩ := hW.put hl hy hj
    cases e
    exact q u
  have len4 : ∀ (ys : List (List Value)) (cs : List Value), (∀ y ∈ ys, y.length = 4) → cs.length = 4 → ∀ y ∈ ys.set k cs, y.length = 4 := fun ys cs hl hc y hy => by
    rcases List.mem_or_eq_of_mem_set hy with hy | rfl
    · exact hl y hy
    · exact hc
  have get : ∀ (ys : List (List Value)) (cs : List Value), k < ys.length → (ys.set k cs)[k]? = some cs := fun ys cs hl => by rw [List.getElem?_set, if_pos rfl, if_pos hl]
  have hL : k < (l.map Val.cells).length := by simpa using hkl
  have s0 := step w _ x.cells 0 (.int .i64 v.kind) h (vals_fit l).len hk1 (by decide)
  have l0 := len4 _ (x.cells.set 0 (.int .i64 v.kind)) (vals_fit l).len rfl
  have s1 := step _ _ _ 1 (.int .i64 v.i) s0 l0 (get _ _ hL) (by decide)
  have l1 := len4 _ ((x.cells.set 0 (.int .i64 v.kind)).set 1 (.int .i64 v.i)) l0 rfl
  have s2 := step _ _ _ 2 (.bool v.b) s1 l1 (get _ _ (by simpa using hL)) (by decide)
  have l2 := len4 _ (((x.cells.set 0 (.int .i64 v.kind)).set 1 (.int .i64 v.i)).set 2 (.bool v.b)) l1 rfl
  have s3 := step _ _ _ 3 (.string v.s) s2 l2 (get _ _ (by simpa using hL)) (by decide)
  simp only [List.set_set] at s3
  rw [List.map_set]
  exact s3
/-- A value of row k is written over. -/
theorem OwnD.putV {w : World} {base : Nat} {A : Option Addr} {n c k j : Nat} {rs : List RowA} {r : RowA} {x : Val} (h : OwnD w base A n c rs) (hk : rs[k]? = some r) (hj : r.vs[j]? = some x) :
    ∃ g, r.A = some ⟨g, 0, none⟩ ∧ base ≤ g ∧ g < w.heap.size ∧ At w g (j * 4) x.cells ∧ (∀ o, w.frozen? ⟨g, o, none⟩ = false) ∧ ∀ v : Val, OwnD (set4 w g (j * 4) v) base A n c (rs.set k ⟨r.A, r.cap, r.vs.set j v⟩) := by
  have hkl := (List.getElem?_eq_some_iff.1 hk).1
  obtain ⟨g, hA, h1, h2, h3, h4, p⟩ := (h.rows.rows r (List.mem_of_getElem? hk)).putV hj
  refine ⟨g, hA, h1, h2, h3, h4, fun v => ?_⟩
  have hgr := set4_grown w g (j * 4) v
  have hog : ob r.A = some g := by rw [hA]; rfl
  have ho := h.rows.out.grown_other hgr fun q hq hh => own_ne h.rows.out (h.rows.rows r (List.mem_of_getElem? hk)) (by decide) q hq (by rw [ob_eq, hog]; exact hh)
  have ho2 : (rs.set k ⟨r.A, r.cap, r.vs.set j v⟩).map RowA.cells = rs.map RowA.cells := by
    rw [List.map_set]
    apply List.ext_getElem?
    intro i
    rw [List.getElem?_set]
    split
    · rename_i e
      subst e
      simp [hkl, RowA.cells, (List.getElem?_eq_some_iff.1 hk).2]
    · rfl
  refine ⟨⟨by rw [ho2]; exact ho, fun z hz => ?_⟩, fun i m x' y hij hx hy => ?_⟩
  · obtain ⟨i, hi⟩ := List.mem_iff_getElem?.1 hz
    rw [List.getElem?_set] at hi
    split at hi
    · injection hi with hi
      subst hi
      have := p v
      simpa using this
    · rename_i e
      exact (h.rows.rows z (List.mem_of_getElem? hi)).grown_other hgr fun q hq hh => h.diff i k z r (fun e2 => e e2.symm) hi hk q (by rw [← ob_eq z.A z.vs.length z.cap]; exact hq) (by rw [hog]; exact hh)
  · have ad : ∀ (m : Nat) (z : RowA), (rs.set k ⟨r.A, r.cap, r.vs.set j v⟩)[m]? = some z → ∃ z', rs[m]? = some z' ∧ z'.A = z.A := fun m z hz => by
      rw [List.getElem?_set] at hz
      split at hz
      · rename_i e
        injection hz with hz
        subst hz
        subst e
        exact ⟨r, hk, rfl⟩
      · exact ⟨z, hz, rfl⟩
    obtain ⟨x2, hx2, ex⟩ := ad i x' hx
    obtain ⟨y2, hy2, ey⟩ := ad m y hy
    rw [← ex, ← ey]
    exact h.diff i m x2 y2 hij hx2 hy2

/-- A table of the call's own, made from block base on. -/
structure TbOwn (w : World) (base : Nat) (t : TbA) : Prop where
  cols : Own w base 90 3 (.slice t.As t.s.cols.length t.cs) (t.s.cols.map Col.cells)
  ccap : t.s.cols.length ≤ t.cs
  flds : Own w base 92 3 (.slice t.Af t.fs.length t.cf) (t.fs.map Fld.cells)
  rows : OwnD w base t.Ar t.rs.length t.cr t.rs
/-- The same, of rows that may share blocks. -/
structure TbOwnR (w : World) (base : Nat) (t : TbA) : Prop where
  cols : Own w base 90 3 (.slice t.As t.s.cols.length t.cs) (t.s.cols.map Col.cells)
  flds : Own w base 92 3 (.slice t.Af t.fs.length t.cf) (t.fs.map Fld.cells)
  rows : OwnR w base t.Ar t.rs.length t.cr t.rs
theorem TbOwn.r {w : World} {base : Nat} {t : TbA} (h : TbOwn w base t) : TbOwnR w base t := ⟨h.cols, h.flds, h.rows.rows⟩
theorem TbOwnR.fut {w w' : World} {base : Nat} {t : TbA} (h : TbOwnR w base t) [k : Fut w w'] : TbOwnR w' base t := ⟨h.cols.fut, h.flds.fut, h.rows.fut⟩
theorem TbOwn.fut {w w' : World} {base : Nat} {t : TbA} (h : TbOwn w base t) [k : Fut w w'] : TbOwn w' base t := ⟨h.cols.fut, h.ccap, h.flds.fut, h.rows.fut⟩
/-- What a table of the call's own says of sizes. -/
structure TbFine (t : TbA) : Prop where
  clen : t.s.cols.length ≤ 4398046511102
  names : ∀ c ∈ t.s.cols, c.name.size ≤ 9223372036854775807
  flen : t.fs.length ≤ 5864062014800
  rlen : t.rs.length ≤ 5864062014800
  vals : ∀ vs ∈ t.rs.map RowA.vs, vs.length ≤ 3518437208780 ∧ ∀ v ∈ vs, v.s.size ≤ 9223372036854775807
theorem TbOwnR.tin {w : World} {base : Nat} {t : TbA} (h : TbOwnR w base t) (hf : TbFine t) : TbIn w t := by
  obtain ⟨A1, c1, e1, h1, h2, h3, _⟩ := h.cols.slice (cols_fit t.s.cols).len (by simp : (t.s.cols.map Col.cells).length = t.s.cols.length)
  obtain ⟨A2, c2, e2, k1, k2, k3, _⟩ := h.flds.slice (flds_fit t.fs).len (by simp : (t.fs.map Fld.cells).length = t.fs.length)
  injection e1 with a1 a2 a3
  injection e2 with b1 b2 b3
  exact ⟨⟨by rw [a3]; exact h1, by rw [a3]; simpa [maxLen] using h2, hf.clen, by rw [a1]; exact h3, hf.names⟩, ⟨by rw [b3]; exact k1, by rw [b3]; simpa [maxLen] using k2, by have := hf.flen; omega, by rw [b1]; exact k3⟩, hf.flen, h.rows.rin hf.rlen hf.vals⟩
theorem TbIn.fine {w : World} {t : TbA} (h : TbIn w t) : TbFine t :=
  ⟨h.sch.len, h.sch.names, h.fsm, h.rows.hcapm, fun vs hvs => by obtain ⟨r, hr, rfl⟩ := List.mem_map.1 hvs; exact ⟨(h.rows.rows r hr).hcapm, (h.rows.rows r hr).strs⟩⟩

/-- What the doer's functions may turn: blocks from g on, and of those that were there only the table T, rows and values. -/
structure Mt (g T : Nat) (w w' : World) : Prop where
  below : Below g w w'
  keep : ∀ (b : Nat) (e : TypeId) (cur : List Value), b ≠ T → e ≠ 36 → e ≠ 67 → Blk w b e cur → Blk w' b e cur
theorem Mt.refl (g T : Nat) (w : World) : Mt g T w w := ⟨Below.refl _ _, fun _ _ _ _ _ _ h => h⟩
theorem Mt.trans {g T : Nat} {w w' w'' : World} (h : Mt g T w w') (k : Mt g T w' w'') : Mt g T w w'' := ⟨h.below.trans k.below, fun b e cur h1 h2 h3 hb => k.keep b e cur h1 h2 h3 (h.keep b e cur h1 h2 h3 hb)⟩
theorem Mt.step {g T : Nat} {w w' : World} (hg : g ≤ w.heap.size) (h : Below w.heap.size w w') : Mt g T w w' := ⟨h.mono hg, fun _ _ _ _ _ _ hb => hb.below h hb.lt⟩
/-- A cell of the table is stored. -/
theorem Mt.cell {g T : Nat} (w : World) (hT : g ≤ T) (i : Nat) (u : Value) : Mt g T w (w.setCell ⟨T, i, none⟩ u) := ⟨(Below.refl _ _).setCell (p := ⟨T, i, none⟩) hT u, fun _ _ _ h1 _ _ hb => hb.far (p := ⟨T, i, none⟩) h1 u⟩
/-- A row or a value of the table's own is turned. -/
theorem Mt.grown {g T q : Nat} {e : TypeId} {cur : List Value} {w w' : World} (hq : g ≤ q) (hb : Blk w q e cur) (he : e = 36 ∨ e = 67) (h : w.grownBy w' (some q)) : Mt g T w w' := by
  refine ⟨⟨h.os, h.tape, h.output, h.size, fun k hk => ?_⟩, fun _ e' cur' _ h2 h3 hb' => hb'.grown h fun hh => ?_⟩
  · by_cases hk2 : k < w.heap.size
    · exact h.block k hk2 (fun hh => by injection hh with hh; omega)
    · exact absurd hb.lt (by omega)
  · injection hh with hh
    subst hh
    have := hb'.ne_ hb
    rcases he with rfl | rfl
    · exact this h2 rfl
    · exact this h3 rfl
/-- A thrown code's world, or what is done. -/
def RunR (g T : Nat) (w : World) (r : Except Int Tb) (e : Ending) (w' : World) : Prop :=
  Mt g T w w' ∧ match r with
    | .error c => e = .panicked [{ v := faultM c, recovered := false }]
    | .ok u => e = .returned (.tuple #[]) ∧ ∃ t' : TbA, t'.tb = u ∧ Blk w' T 30 t'.cells ∧ TbOwnR w' g t'
/-- The doer, its table, its operation. -/
structure Doer (w : World) (g D T O : Nat) (t : TbA) (o : OpA) : Prop where
  d : Blk w D 86 [.pointer (some ⟨T, 0, none⟩), .pointer (some ⟨O, 0, none⟩)]
  tb : Blk w T 30 t.cells
  op : Blk w O 38 o.cells
  own : TbOwn w g t
  gT : g ≤ T
theorem Doer.fut {w w' : World} {g D T O : Nat} {t : TbA} {o : OpA} (h : Doer w g D T O t o) [k : Fut w w'] : Doer w' g D T O t o := ⟨h.d.fut, h.tb.fut, h.op.fut, h.own.fut, h.gT⟩
end Go.Proofs.YtnphokhehacfnaaGreatDoor

namespace Go.Proofs.YtnphokhehacfnaaGreatDoor
open Go.RowKit

/-- What marks the room behind a slice that is lent. -/
def Col.mark : Col := ⟨77777, .empty, 0⟩

end Go.Proofs.YtnphokhehacfnaaGreatDoor

namespace Go.Proofs.YtnphokhehacfnaaGreatDoor
open Go.RowKit

/-- A schema whose columns lie in a place with marked room behind them. -/
structure LentS (w : World) (s : Sch) (A : Option Addr) (c : Nat) : Prop where
  room : s.cols.length + 2 ≤ c
  capm : c ≤ 9223372036854775807
  len : s.cols.length ≤ 4398046511102
  at_ : SlAt w w.heap.size 3 A ((s.cols ++ [Col.mark, Col.mark]).map Col.cells)
  names : ∀ c ∈ s.cols, c.name.size ≤ 9223372036854775807
end Go.Proofs.YtnphokhehacfnaaGreatDoor

