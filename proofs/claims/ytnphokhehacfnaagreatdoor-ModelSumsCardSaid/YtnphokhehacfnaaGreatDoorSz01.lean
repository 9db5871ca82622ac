/-
  Texts put together: OpV, OpVal, OpRo, OpFd, OpT, Xq.
-/
import Derived.Test.YtnphokhehacfnaaGreatDoorSz90
import Derived.Test.YtnphokhehacfnaaGreatDoorSz91
namespace Go.Proofs.YtnphokhehacfnaaGreatDoor
open Go.ChangeShapes Go.WideShapes Go.ChangeAt Go.RowKit

theorem cells_bool : Tryz.prog.cellsOf 4 = 1 := by kernel_rfl
theorem cells_val : Tryz.prog.cellsOf 36 = 4 := by kernel_rfl
theorem o_bool : Opens Tryz.prog 4 (fun b : Bool => [.bool b]) (fun _ _ => True) := opens_bool Tryz.underlying4
set_option maxRecDepth 100000 in
theorem o_val : Opens Tryz.prog 36 (fun v : Val => [.int .i64 v.kind, .int .i64 v.i, .bool v.b, .string v.s]) (fun _ v => v.s.size ≤ 9223372036854775807) :=
  (opens_struct Tryz.underlying36 (tot := 4) (by kernel_rfl) (opensF_cons (by rfl) cells_int o_int (opensF_cons (by rfl) cells_int o_int (opensF_cons (by rfl) cells_bool o_bool (opensF_cons (by rfl) cells_str o_str (opensF_nil (by rfl))))))).map
    (fun p : Int × Int × Bool × ByteArray × Unit => (⟨p.1, p.2.1, p.2.2.1, p.2.2.2.1⟩ : Val)) (by intro _; rfl) (by intro w p h; have := h.2.2.2.1.1; simpa [maxLen] using this)
end Go.Proofs.YtnphokhehacfnaaGreatDoor

namespace Go.Proofs.YtnphokhehacfnaaGreatDoor
open Go.ChangeShapes Go.WideShapes Go.ChangeAt Go.RowKit

set_option maxRecDepth 100000 in
theorem o_nod : Opens Tryz.prog 77 Nod.cells (fun _ n => n.col.size ≤ 9223372036854775807 ∧ n.v.s.size ≤ 9223372036854775807) :=
  (opens_struct Tryz.underlying77 (tot := 9) (by kernel_rfl) (opensF_cons (by rfl) cells_int o_int (opensF_cons (by rfl) cells_str o_str (opensF_cons (by rfl) cells_int o_int (opensF_cons (by rfl) cells_val o_val (opensF_cons (by rfl) cells_int o_int (opensF_cons (by rfl) cells_int o_int (opensF_nil (by rfl))))))))).map
    (fun p : Int × ByteArray × Int × Val × Int × Int × Unit => (⟨p.1, p.2.1, p.2.2.1, p.2.2.2.1, p.2.2.2.2.1, p.2.2.2.2.2.1⟩ : Nod)) (by intro _; rfl) (by intro w p h; have := h.2.1.1; exact ⟨by simpa [maxLen] using this, h.2.2.2.1⟩)
set_option maxRecDepth 100000 in
theorem o_nods : Opens Tryz.prog 32 (fun p : Option Addr × Nat × List Nod => [.slice p.1 p.2.2.length p.2.1]) (fun w p => PrIn w p.2.2 p.1 p.2.1) :=
  (opens_slice Tryz.underlying32 (size := 9) (bytes := 88) (by kernel_rfl) (by decide) (by kernel_rfl) o_nod).map id (fun _ => rfl) (fun w p h => by
    have h1 := h.1
    have h2 := h.2.2.1
    simp only [reachBytes] at h2
    exact ⟨h1, by simp only [id]; omega, by simp only [id]; omega, h.2.2.2.1, h.2.2.2.2⟩)
set_option maxRecDepth 100000 in
theorem o_pred : Opens Tryz.prog 34 (fun p : Option Addr × Nat × List Nod => [.slice p.1 p.2.2.length p.2.1]) (fun w p => PrIn w p.2.2 p.1 p.2.1) :=
  (opens_struct Tryz.underlying34 (tot := 1) (by kernel_rfl) (opensF_cons (by rfl) (show Tryz.prog.cellsOf 32 = 1 by kernel_rfl) o_nods (opensF_nil (by rfl)))).map
    (fun p : (Option Addr × Nat × List Nod) × Unit => p.1) (by intro _; rfl) (by intro w p h; exact h.1)
end Go.Proofs.YtnphokhehacfnaaGreatDoor

namespace Go.Proofs.YtnphokhehacfnaaGreatDoor
open Go.ChangeShapes Go.WideShapes Go.ChangeAt Go.RowKit

end Go.Proofs.YtnphokhehacfnaaGreatDoor

namespace Go.Proofs.YtnphokhehacfnaaGreatDoor
open Go.ChangeShapes Go.WideShapes Go.ChangeAt Go.RowKit

set_option maxRecDepth 100000 in
theorem o_fldA : Opens Tryz.prog 92 (fun f : Fld => [.int .i64 f.source, .int .i64 f.trans, .int .i64 f.param]) (fun _ _ => True) :=
  (opens_struct Tryz.underlying92 (tot := 3) (by kernel_rfl) (opensF_cons (by rfl) cells_int o_int (opensF_cons (by rfl) cells_int o_int (opensF_cons (by rfl) cells_int o_int (opensF_nil (by rfl)))))).map
    (fun p : Int × Int × Int × Unit => (⟨p.1, p.2.1, p.2.2.1⟩ : Fld)) (by intro _; rfl) (by intro w p h; trivial)
set_option maxRecDepth 100000 in
theorem o_valF : Opens Tryz.prog 36 (fun v : Val => [.int .i64 v.kind, .int .i64 v.i, .bool v.b, .string v.s]) (fun _ v => v.s.size ≤ 9223372036854775000 ∧ -9223372036854775808 ≤ v.i ∧ v.i ≤ 9223372036854775807) :=
  (opens_struct Tryz.underlying36 (tot := 4) (by kernel_rfl) (opensF_cons (by rfl) cells_int o_int (opensF_cons (by rfl) cells_int o_int (opensF_cons (by rfl) cells_bool o_bool (opensF_cons (by rfl) cells_str o_str (opensF_nil (by rfl))))))).map
    (fun p : Int × Int × Bool × ByteArray × Unit => (⟨p.1, p.2.1, p.2.2.1, p.2.2.2.1⟩ : Val)) (by intro _; rfl) (by
      intro w p h
      have h1 := bounds_i64 h.2.1
      have h2 := h.2.2.2.1.2
      simp only [reachBytes] at h2
      exact ⟨Nat.le_trans h2 (by decide), h1⟩)
end Go.Proofs.YtnphokhehacfnaaGreatDoor

namespace Go.Proofs.YtnphokhehacfnaaGreatDoor
open Go.ChangeShapes Go.WideShapes Go.ChangeAt Go.RowKit

set_option maxRecDepth 100000 in
theorem o_valsD : Opens Tryz.prog 65 (fun p : Option Addr × Nat × List Val => [.slice p.1 p.2.2.length p.2.1])
    (fun w p => p.2.2.length ≤ p.2.1 ∧ p.2.1 ≤ 3518437208780 ∧ SlAt w w.heap.size 4 p.1 (p.2.2.map Val.cells) ∧ ∀ v ∈ p.2.2, FineD v) :=
  (opens_slice Tryz.underlying65 (size := 4) (bytes := 40) (by kernel_rfl) (by decide) (by kernel_rfl) (o_valF.map id (c' := Val.cells) (fun _ => rfl) (fun _ _ h => h))).map id (fun _ => rfl) (fun w p h => ⟨h.1, by have := h.2.2.1; simp only [reachBytes] at this; simp only [id]; omega, h.2.2.2.1, h.2.2.2.2⟩)
set_option maxRecDepth 100000 in
theorem o_rowD : Opens Tryz.prog 67 RowA.cells (fun w r => RowIn w r ∧ ∀ v ∈ r.vs, FineD v) :=
  (opens_struct Tryz.underlying67 (tot := 1) (by kernel_rfl) (opensF_cons (by rfl) (show Tryz.prog.cellsOf 65 = 1 by kernel_rfl) o_valsD (opensF_nil (by rfl)))).map
    (fun p : (Option Addr × Nat × List Val) × Unit => (⟨p.1.1, p.1.2.1, p.1.2.2⟩ : RowA)) (by intro _; rfl) (by intro w p h; exact ⟨⟨h.1.1, Nat.le_trans h.1.1 h.1.2.1, Nat.le_trans h.1.2.1 (by decide), h.1.2.2.1, fun v hv => Nat.le_trans (h.1.2.2.2 v hv).1 (by decide)⟩, h.1.2.2.2⟩)
set_option maxRecDepth 100000 in
theorem o_rowsD : Opens Tryz.prog 28 (fun p : Option Addr × Nat × List RowA => [.slice p.1 p.2.2.length p.2.1]) (fun w p => RowsIn w p.2.2 p.1 p.2.1 ∧ ∀ r ∈ p.2.2, ∀ v ∈ r.vs, FineD v) :=
  (opens_slice Tryz.underlying28 (size := 1) (bytes := 24) (by kernel_rfl) (by decide) (by kernel_rfl) o_rowD).map id (fun _ => rfl) (fun w p h => by
    have h1 := h.1
    have h2 := h.2.2.1
    simp only [reachBytes] at h2
    exact ⟨⟨h1, by simp only [id]; omega, by simp only [id]; omega, h.2.2.2.1, fun r hr => (h.2.2.2.2 r hr).1⟩, fun r hr => (h.2.2.2.2 r hr).2⟩)
set_option maxRecDepth 100000 in
theorem o_fldsD : Opens Tryz.prog 25 (fun p : Option Addr × Nat × List Fld => [.slice p.1 p.2.2.length p.2.1]) (fun w p => FsIn w p.2.2 p.1 p.2.1 ∧ p.2.2.length ≤ 5864062014800) :=
  (opens_slice Tryz.underlying25 (size := 3) (bytes := 24) (by kernel_rfl) (by decide) (by kernel_rfl) (o_fldA.map id (c' := Fld.cells) (Q' := fun _ _ => True) (fun _ => rfl) (fun _ _ _ => trivial))).map id (fun _ => rfl) (fun w p h => by
    have h1 := h.1
    have h2 := h.2.2.1
    simp only [reachBytes] at h2
    exact ⟨⟨h1, by simp only [id]; omega, by simp only [id]; omega, h.2.2.2.1⟩, by simp only [id]; omega⟩)
set_option maxRecDepth 100000 in
theorem o_specD : Opens Tryz.prog 27 (fun p : Int × Option Addr × Nat × List Fld => [.int .i64 p.1, .slice p.2.1 p.2.2.2.length p.2.2.1]) (fun w p => FsIn w p.2.2.2 p.2.1 p.2.2.1 ∧ p.2.2.2.length ≤ 5864062014800) :=
  (opens_struct Tryz.underlying27 (tot := 2) (by kernel_rfl) (opensF_cons (by rfl) cells_int o_int (opensF_cons (by rfl) (show Tryz.prog.cellsOf 25 = 1 by kernel_rfl) o_fldsD (opensF_nil (by rfl))))).map
    (fun p : Int × (Option Addr × Nat × List Fld) × Unit => (p.1, p.2.1)) (by intro _; rfl) (by intro w p h; exact h.2.1)
set_option maxRecDepth 100000 in
theorem o_tabD : Opens Tryz.prog 30 TbA.cells (fun w t => TbIn w t ∧ ∀ r ∈ t.rs, ∀ v ∈ r.vs, FineD v) :=
  (opens_struct Tryz.underlying30 (tot := 6) (by kernel_rfl) (opensF_cons (by rfl) (show Tryz.prog.cellsOf 24 = 3 by kernel_rfl) o_sch (opensF_cons (by rfl) (show Tryz.prog.cellsOf 27 = 2 by kernel_rfl) o_specD (opensF_cons (by rfl) (show Tryz.prog.cellsOf 28 = 1 by kernel_rfl) o_rowsD (opensF_nil (by rfl)))))).map
    (fun p : (Sch × Option Addr × Nat) × (Int × Option Addr × Nat × List Fld) × (Option Addr × Nat × List RowA) × Unit => (⟨p.1.1, p.1.2.1, p.1.2.2, p.2.1.1, p.2.1.2.2.2, p.2.1.2.1, p.2.1.2.2.1, p.2.2.1.2.2, p.2.2.1.1, p.2.2.1.2.1⟩ : TbA)) (by intro _; rfl) (by intro w p h; exact ⟨⟨h.1, h.2.1.1, h.2.1.2, h.2.2.1.1⟩, h.2.2.1.2⟩)
set_option maxRecDepth 100000 in
theorem o_op : Opens Tryz.prog 38 OpA.cells (fun w o => OpIn w o) :=
  (opens_struct Tryz.underlying38 (tot := 16) (by kernel_rfl) (opensF_cons (by rfl) cells_int o_int (opensF_cons (by rfl) cells_str o_str (opensF_cons (by rfl) (show Tryz.prog.cellsOf 31 = 1 by kernel_rfl) o_strs (opensF_cons (by rfl) (show Tryz.prog.cellsOf 28 = 1 by kernel_rfl) o_rowsD (opensF_cons (by rfl) (show Tryz.prog.cellsOf 34 = 1 by kernel_rfl) o_pred (opensF_cons (by rfl) cells_str o_str (opensF_cons (by rfl) cells_str o_str (opensF_cons (by rfl) cells_int o_int (opensF_cons (by rfl) cells_val o_valF (opensF_cons (by rfl) (show Tryz.prog.cellsOf 25 = 1 by kernel_rfl) o_fldsD (opensF_cons (by rfl) cells_int o_int (opensF_cons (by rfl) cells_int o_int (opensF_cons (by rfl) cells_int o_int (opensF_nil (by rfl)))))))))))))))).map
    (fun p : Int × ByteArray × (Option Addr × Nat × List ByteArray) × (Option Addr × Nat × List RowA) × (Option Addr × Nat × List Nod) × ByteArray × ByteArray × Int × Val × (Option Addr × Nat × List Fld) × Int × Int × Int × Unit => (⟨p.1, p.2.1, p.2.2.1.2.2, p.2.2.1.1, p.2.2.1.2.1, p.2.2.2.1.2.2, p.2.2.2.1.1, p.2.2.2.1.2.1, p.2.2.2.2.1.2.2, p.2.2.2.2.1.1, p.2.2.2.2.1.2.1, p.2.2.2.2.2.1, p.2.2.2.2.2.2.1, p.2.2.2.2.2.2.2.1, p.2.2.2.2.2.2.2.2.1, p.2.2.2.2.2.2.2.2.2.1.2.2, p.2.2.2.2.2.2.2.2.2.1.1, p.2.2.2.2.2.2.2.2.2.1.2.1, p.2.2.2.2.2.2.2.2.2.2.1, p.2.2.2.2.2.2.2.2.2.2.2.1, p.2.2.2.2.2.2.2.2.2.2.2.2.1⟩ : OpA)) (by intro _; rfl) (by
      intro w p h
      have h1 := h.2.2.1.1
      have h2 := h.2.2.1.2.1
      have h3 := h.2.2.2.2.2.2.1.1
      exact ⟨h.2.2.1.2.2.1, Nat.le_trans (Nat.le_trans h1 h2) (by decide), h1, h.2.2.2.1.1, h.2.2.2.1.2, h.2.2.2.2.1, h.2.2.2.2.2.2.2.2.2.1.1, h.2.2.2.2.2.2.2.2.2.1.2, h.2.2.2.2.2.2.2.2.1, by simpa [maxLen] using h3⟩)
end Go.Proofs.YtnphokhehacfnaaGreatDoor

namespace Go.Proofs.YtnphokhehacfnaaGreatDoor
open Go.RowKit

theorem clean_null0 {v : Val} (h : kindV v = 0) : clean v = Val.zero := by
  have h1 : ¬ v.kind = 1 := by intro e; rw [kindV, if_pos (.inl e)] at h; omega
  have h2 : ¬ v.kind = 2 := by intro e; rw [kindV, if_pos (.inr (.inl e))] at h; omega
  have h3 : ¬ v.kind = 3 := by intro e; rw [kindV, if_pos (.inr (.inr e))] at h; omega
  rw [clean, if_neg h1, if_neg h2, if_neg h3]
theorem selV_clean (p : Val → Val → Bool) (a v : Val) : clean (selV p a v) = selV p a v := by
  unfold selV
  split <;> exact clean_clean _
theorem selV_null {p : Val → Val → Bool} {a v : Val} (h : kindV v = 0) : selV p a v = clean a := by
  unfold selV
  by_cases ha : kindV a = 0
  · rw [if_pos (.inl ha), clean_null0 h, clean_null0 ha]
  · rw [if_neg (by
      rintro (e | ⟨e, _⟩)
      · exact ha e
      · exact e h)]
theorem selV_first {p : Val → Val → Bool} {a v : Val} (ha : kindV a = 0) : selV p a v = clean v := by
  unfold selV
  rw [if_pos (.inl ha)]
theorem selV_cl {p : Val → Val → Bool} (a v : Val) : selV p (clean a) v = selV p a v := by
  unfold selV
  rw [kindV_clean, clean_clean]
theorem selV_two {p : Val → Val → Bool} {a v : Val} (ha : kindV a ≠ 0) (hv : kindV v ≠ 0) : selV p a v = if p (clean v) (clean a) = true then clean v else clean a := by
  unfold selV
  by_cases h : p (clean v) (clean a) = true
  · rw [if_pos (.inr ⟨hv, h⟩), if_pos h]
  · rw [if_neg (by
      rintro (e | ⟨_, e⟩)
      · exact ha e
      · exact h e), if_neg h]
theorem selV_swap {p : Val → Val → Bool} (hw : Weak p) (ht : ∀ a b, p a b = false → p b a = false → clean a = clean b) (x y : Val) :
    (if p (clean y) (clean x) = true then clean y else clean x) = if p (clean x) (clean y) = true then clean x else clean y := by
  cases h3 : p (clean y) (clean x) with
  | true =>
    rw [hw.asym _ _ h3]
    rfl
  | false =>
    cases h4 : p (clean x) (clean y) with
    | true => rfl
    | false =>
      have := ht _ _ h4 h3
      rw [clean_clean, clean_clean] at this
      show clean x = clean y
      exact this
theorem selV_comm {p : Val → Val → Bool} (hw : Weak p) (ht : ∀ a b, p a b = false → p b a = false → clean a = clean b) (a x y : Val) : selV p (selV p a x) y = selV p (selV p a y) x := by
  by_cases hx : kindV x = 0
  · rw [selV_null (a := a) hx, selV_cl, selV_null (a := selV p a y) hx, selV_clean]
  by_cases hy : kindV y = 0
  · rw [selV_null (a := selV p a x) hy, selV_clean, selV_null (a := a) hy, selV_cl]
  by_cases ha : kindV a = 0
  · rw [selV_first (v := x) ha, selV_first (v := y) ha, selV_cl, selV_cl, selV_two hx hy, selV_two hy hx]
    exact selV_swap hw ht x y
  · rw [selV_two ha hx, selV_two ha hy]
    cases h1 : p (clean x) (clean a) <;> cases h2 : p (clean y) (clean a)
    · show selV p (clean a) y = selV p (clean a) x
      rw [selV_cl, selV_cl, selV_two ha hy, selV_two ha hx, h1, h2]
      rfl
    · have h4 := hw.tr (clean y) (clean a) (clean x) (hw.asym _ _ h2) h1
      show selV p (clean a) y = selV p (clean y) x
      rw [selV_cl, selV_cl, selV_two ha hy, selV_two hy hx, h2, h4]
      rfl
    · have h3 := hw.tr (clean x) (clean a) (clean y) (hw.asym _ _ h1) h2
      show selV p (clean x) y = selV p (clean a) x
      rw [selV_cl, selV_cl, selV_two hx hy, selV_two ha hx, h1, h3]
      rfl
    · show selV p (clean x) y = selV p (clean y) x
      rw [selV_cl, selV_cl, selV_two hx hy, selV_two hy hx]
      exact selV_swap hw ht x y
theorem lessV_weak : Weak lessV := ⟨lessV_irr, fun _ _ h => lessV_asymm h, fun _ _ _ h1 h2 => lessV_tr h1 h2⟩
theorem moreV_weak : Weak (fun x y => lessV y x) := ⟨lessV_irr, fun _ _ h => lessV_asymm h, fun _ _ _ h1 h2 => lessV_tr h2 h1⟩
theorem min_perm {a b : List Val} (h : a.Perm b) : minP a = minP b := h.foldl_eq' (fun x _ y _ z => selV_comm lessV_weak (fun _ _ h1 h2 => lessV_tie h1 h2) z x y) Val.zero
theorem max_perm {a b : List Val} (h : a.Perm b) : maxP a = maxP b := h.foldl_eq' (fun x _ y _ z => selV_comm moreV_weak (fun _ _ h1 h2 => lessV_tie h2 h1) z x y) Val.zero
/-- What the law counts of sorted values: how many, the first, the last that are not null. -/
def sumStep (st : Int × Val × Val) (v : Val) : Int × Val × Val := if v.kind = 0 then st else (st.1 + 1, if st.1 = 0 then v else st.2.1, v)
structure SumInv (st : Int × Val × Val) (zs : List Val) : Prop where
  pos : 0 ≤ st.1
  none_ : st.1 = 0 → kindV st.2.1 = 0 ∧ kindV st.2.2 = 0
  some_ : st.1 ≠ 0 → kindV st.2.1 ≠ 0 ∧ kindV st.2.2 ≠ 0
  ca : clean st.2.1 = st.2.1
  cb : clean st.2.2 = st.2.2
  la : st.1 ≠ 0 → ∀ z ∈ zs, lessV z st.2.1 = false
  lb : st.1 ≠ 0 → ∀ z ∈ zs, lessV z st.2.2 = false
theorem nullsP_cons (z : Val) (r : List Val) : (nullsP (z :: r) : Int) = (nullsP r : Int) + if kindV z = 0 then 1 else 0 := by
  unfold nullsP
  rw [List.countP_cons]
  by_cases h : kindV z = 0 <;> simp [h]
theorem sums_fold : ∀ (zs : List Val) (st : Int × Val × Val), (∀ z ∈ zs, clean z = z) → Asc lessV zs → SumInv st zs →
    zs.foldl sumStep st = (st.1 + ((zs.length : Int) - (nullsP zs : Int)), zs.foldl (selV lessV) st.2.1, zs.foldl (selV fun x y => lessV y x) st.2.2)
  | [], st, _, _, _ => by
    show st = (st.1 + (0 - 0), st.2.1, st.2.2)
    rw [Int.sub_zero, Int.add_zero]
  | z :: r, st, hc, ha, hi => by
    have hcz := hc z (by simp)
    have hkz : z.kind = kindV z := by have := clean_kind z; rw [hcz] at this; exact this
    unfold Asc at ha
    rw [List.pairwise_cons] at ha
    have hcr : ∀ z ∈ r, clean z = z := fun y hy => hc y (by simp [hy])
    rw [List.foldl_cons, List.foldl_cons, List.foldl_cons, nullsP_cons, List.length_cons]
    by_cases hz : kindV z = 0
    · rw [show sumStep st z = st from if_pos (hkz.trans hz), selV_null hz, selV_null hz, hi.ca, hi.cb]
      rw [sums_fold r st hcr ha.2 ⟨hi.pos, hi.none_, hi.some_, hi.ca, hi.cb, fun h y hy => hi.la h y (by simp [hy]), fun h y hy => hi.lb h y (by simp [hy])⟩, if_pos hz]
      congr 1
      omega
    · have hs : sumStep st z = (st.1 + 1, if st.1 = 0 then z else st.2.1, z) := if_neg (by rw [hkz]; exact hz)
      have hp := hi.pos
      have e1 : selV lessV st.2.1 z = if st.1 = 0 then z else st.2.1 := by
        by_cases h0 : st.1 = 0
        · rw [selV_first (hi.none_ h0).1, if_pos h0, hcz]
        · rw [selV_two (hi.some_ h0).1 hz, if_neg h0, if_neg (by rw [lessV_clean_l, lessV_clean_r, hi.la h0 z (by simp)]; simp), hi.ca]
      have e2 : selV (fun x y => lessV y x) st.2.2 z = z := by
        by_cases h0 : st.1 = 0
        · rw [selV_first (hi.none_ h0).2, hcz]
        · rw [selV_two (hi.some_ h0).2 hz]
          cases h5 : lessV st.2.2 z with
          | true => rw [if_pos (by rw [lessV_clean_l, lessV_clean_r]; exact h5), hcz]
          | false =>
            rw [if_neg (by rw [lessV_clean_l, lessV_clean_r, h5]; simp), ← hcz]
            exact lessV_tie h5 (hi.lb h0 z (by simp))
      rw [hs, e1, e2]
      rw [sums_fold r _ hcr ha.2 ⟨by show 0 ≤ st.1 + 1; omega, fun h => absurd h (by show ¬ st.1 + 1 = 0; omega), fun _ => ⟨by
        show kindV (if st.1 = 0 then z else st.2.1) ≠ 0
        split
        · exact hz
        · rename_i h0; exact (hi.some_ h0).1, hz⟩, by
        show clean (if st.1 = 0 then z else st.2.1) = _
        split
        · exact hcz
        · exact hi.ca, hcz, fun _ y hy => by
        show lessV y (if st.1 = 0 then z else st.2.1) = false
        split
        · exact ha.1 y hy
        · rename_i h0; exact hi.la h0 y (by simp [hy]), fun _ y hy => ha.1 y hy⟩, if_neg hz]
      show (st.1 + 1 + _, _, _) = _
      congr 1
      omega
theorem lessL_one (x y : Val) : lessL [x] [y] = lessV x y := by
  show (if lessV x y then true else if lessV y x then false else lessL [] []) = _
  cases lessV x y with
  | true => rfl
  | false => show (if lessV y x then false else false) = false; cases lessV y x <;> rfl
/-- Sorted rows of one value: what the law counts of them. -/
theorem rows_sums {l : List (List Val)} {vals : List Val} (ha : Asc lessL l) (hp : l.Perm ((vals.map fun v => [clean v]).map cleanL)) :
    ∃ zs : List Val, l = zs.map (fun z => [z]) ∧ zs.foldl sumStep (0, Val.zero, Val.zero) = ((vals.length : Int) - (nullsP (vals.map clean) : Int), minP (vals.map clean), maxP (vals.map clean)) := by
  have h1 : (vals.map fun v => [clean v]).map cleanL = (vals.map clean).map fun z => [z] := by
    rw [List.map_map, List.map_map]
    refine List.map_congr_left fun v _ => ?_
    show [clean (clean v)] = [clean v]
    rw [clean_clean]
  rw [h1] at hp
  have h2 : l = (l.map fun vs => vs.getD 0 Val.zero).map fun z => [z] := by
    rw [List.map_map]
    refine ((List.map_congr_left (g := id) fun vs hvs => ?_).trans (List.map_id _)).symm
    obtain ⟨z, _, rfl⟩ := List.mem_map.1 (hp.mem_iff.1 hvs)
    rfl
  have h3 : (l.map fun vs => vs.getD 0 Val.zero).Perm (vals.map clean) := by
    have := hp.map fun vs => vs.getD 0 Val.zero
    rw [List.map_map (l := vals.map clean)] at this
    rw [show (vals.map clean).map ((fun vs => vs.getD 0 Val.zero) ∘ fun z => [z]) = vals.map clean from (List.map_congr_left (g := id) fun _ _ => rfl).trans (List.map_id _)] at this
    exact this
  generalize (l.map fun vs => vs.getD 0 Val.zero) = zs at h2 h3
  subst h2
  refine ⟨zs, rfl, ?_⟩
  have hc : ∀ z ∈ zs, clean z = z := fun z hz => by
    obtain ⟨v, _, rfl⟩ := List.mem_map.1 (h3.mem_iff.1 hz)
    exact clean_clean v
  have ha2 : Asc lessV zs := by
    unfold Asc at ha ⊢
    rw [List.pairwise_map] at ha
    refine ha.imp fun {x y} h => ?_
    rw [lessL_one] at h
    exact h
  rw [sums_fold zs _ hc ha2 ⟨Int.le_refl _, fun _ => ⟨rfl, rfl⟩, fun h => absurd rfl h, rfl, rfl, fun h => absurd rfl h, fun h => absurd rfl h⟩]
  rw [← min_perm h3, ← max_perm h3]
  have e1 := h3.length_eq
  rw [List.length_map] at e1
  have e2 : nullsP zs = nullsP (vals.map clean) := h3.countP_eq _
  rw [e1, e2]
  show (0 + _, _, _) = _
  rw [Int.zero_add]
  rfl
/-- The operation of the law's reads. -/
def opS (o : Opp) (a : Int) : Opp := ⟨9, [o.col], o.rows, o.ns, o.col, o.name, o.ck, o.v, o.fs, a⟩
theorem opS_form (o : Opp) {a : Int} (h0 : 0 ≤ a) (h4 : a ≤ 4) : ((opS o a).kind ≠ 9 ∨ predB (opS o a).ns = false ∨ (opS o a).agg < 0 ∨ 4 < (opS o a).agg) ↔ predB o.ns = false := by
  constructor
  · rintro (h | h | h | h)
    · exact absurd rfl h
    · exact h
    · exact absurd h (by show ¬ a < 0; omega)
    · exact absurd h (by show ¬ 4 < a; omega)
  · exact fun h => .inr (.inl h)
theorem sums_err {t : Tb} {o : Opp} {c : Int} (h : readR t (opS o 0) = .error c) {a : Int} (h0 : 0 ≤ a) (h4 : a ≤ 4) : readT t (opS o a) = (c, Val.zero) := by
  unfold readR at h
  unfold readT
  split at h
  · rename_i hm
    rw [if_pos hm]
    injection h with h
    rw [h]
  · rename_i hm
    rw [if_neg hm, read_eq]
    rw [readN_eq] at h
    by_cases hp : predB o.ns = false
    · rw [if_pos ((opS_form o (Int.le_refl 0) (by omega)).2 hp)] at h
      rw [if_pos ((opS_form o h0 h4).2 hp)]
      injection h with h
      rw [h]
    · rw [if_neg fun e => hp ((opS_form o (Int.le_refl 0) (by omega)).1 e)] at h
      rw [if_neg fun e => hp ((opS_form o h0 h4).1 e)]
      rw [show (opS o 0).ns = (opS o a).ns from rfl] at h
      cases hy : yesP t (opS o a).ns with
      | error d =>
        rw [hy] at h
        injection h with h
        rw [h]
      | ok l =>
        rw [hy] at h
        show (match readB t (opS o a) l with | .error c => (c, Val.zero) | .ok v => (0, v)) = _
        replace h : readNB t (opS o 0) l = .error c := h
        unfold readNB at h
        split at h
        · rename_i hq
          replace hq : (opS o a).cols.all (fun n => decide (0 ≤ idx (named n) t.s.cols)) = false := hq
          rw [readB, if_pos hq]
          injection h with h
          rw [h]
        · cases h
theorem yes_lenQ {t : Tb} {ns : List Nod} {l : List Int} (h : yesP t ns = .ok l) : l.length ≤ t.rows.length := by
  unfold yesP at h
  split at h
  · cases h
  · injection h with h
    subst h
    unfold selR
    split
    · simp
    · split
      · exact yesTo_len _ _ _ _
      · simp
theorem sums_ok {t : Tb} {o : Opp} {p : List ByteArray × List (List Val)} (h : readR t (opS o 0) = .ok p) :
    p.1 = [o.col] ∧ ∃ vals : List Val, p.2 = vals.map (fun v => [clean v]) ∧ readT t (opS o 1) = (0, ⟨1, (vals.length : Int) - (nullsP (vals.map clean) : Int), false, .empty⟩) ∧ readT t (opS o 3) = (0, minP (vals.map clean)) ∧ readT t (opS o 4) = (0, maxP (vals.map clean)) ∧ vals.length ≤ 4096 ∧ ∀ v ∈ vals, v = Val.zero ∨ ∃ vs ∈ t.rows, ∃ u ∈ vs, v = clean u := by
  unfold readR at h
  split at h
  · cases h
  · rename_i hm
    rw [readN_eq] at h
    by_cases hp : predB o.ns = false
    · rw [if_pos ((opS_form o (Int.le_refl 0) (by omega)).2 hp)] at h
      cases h
    · rw [if_neg fun e => hp ((opS_form o (Int.le_refl 0) (by omega)).1 e)] at h
      cases hy : yesP t (opS o 0).ns with
      | error d => rw [hy] at h; cases h
      | ok l =>
        rw [hy] at h
        replace h : readNB t (opS o 0) l = .ok p := h
        unfold readNB at h
        split at h
        · cases h
        · rename_i hq
          injection h with h
          subst h
          have hix : 0 ≤ idx (named o.col) t.s.cols := by
            have hq2 : [o.col].all (fun n => decide (0 ≤ idx (named n) t.s.cols)) = true := by cases e : [o.col].all (fun n => decide (0 ≤ idx (named n) t.s.cols)) with | true => rfl | false => exact absurd e hq
            simpa using hq2
          have ht := tabB_iff.1 (by cases e : tabB t with | true => rfl | false => exact absurd e hm)
          have key : ∀ {a : Int}, 1 ≤ a → a ≤ 4 → readT t (opS o a) = match readC a ((takeR t.rows l).1.map (pickC (idx (named o.col) t.s.cols).toNat)) with | .error c => (c, Val.zero) | .ok v => (0, v) := by
            intro a h1 h4
            rw [readT, if_neg hm, read_eq, if_neg fun e => hp ((opS_form o (by omega) h4).1 e), show (opS o a).ns = (opS o 0).ns from rfl, hy]
            show (match readB t (opS o a) l with | .error c => (c, Val.zero) | .ok v => (0, v)) = _
            rw [readB, if_neg (show ¬ (opS o a).cols.all (fun n => decide (0 ≤ idx (named n) t.s.cols)) = false from hq), if_neg (show ¬ idx (named (opS o a).col) t.s.cols < 0 by show ¬ idx (named o.col) t.s.cols < 0; omega)]
            rfl
          refine ⟨rfl, (takeR t.rows l).1.map (pickC (idx (named o.col) t.s.cols).toNat), ?_, ?_, ?_, ?_, ?_, ?_⟩
          · show (pickR t.s (takeR t.rows l).1 [o.col]).1 = _
            rw [pickR, if_pos ⟨ht.1, by simpa using hix, by
              rw [List.all_eq_true]
              intro r hr
              obtain ⟨x, hx, rfl⟩ := take_mem hr
              have := List.all_eq_true.1 ht.2.2.2 x hx
              rw [rowW, Bool.and_eq_true] at this
              rw [List.length_map]
              exact this.1⟩]
            rw [List.map_map]
            rfl
          · rw [key (by omega) (by omega), readC]
            rfl
          · rw [key (by omega) (by omega), readC]
            rfl
          · rw [key (by omega) (by omega), readC]
            rfl
          · rw [List.length_map]
            have h1 := take_lenD t.rows l
            have h2 := yes_lenQ hy
            have h3 := ht.2.2.1
            omega
          · intro v hv
            obtain ⟨r, hr, rfl⟩ := List.mem_map.1 hv
            obtain ⟨x, hx, rfl⟩ := take_mem hr
            unfold pickC
            rw [List.getD_eq_getElem?_getD]
            cases e : (x.map clean)[(idx (named o.col) t.s.cols).toNat]? with
            | none => exact .inl rfl
            | some u =>
              obtain ⟨q, hq, rfl⟩ := List.mem_map.1 (List.mem_of_getElem? e)
              exact .inr ⟨x, hx, q, hq, rfl⟩
end Go.Proofs.YtnphokhehacfnaaGreatDoor

