/-
  Texts put together: Base, Sh.
-/
import Derived.Maps.AppendAt
import Derived.Deep.RegionLaw
import Derived.StillTailTactics
import Derived.Deep.RegionHeld3
import Derived.Test.YtnphokhehacfnaaGreatDoorCz00
namespace Go.Proofs.YtnphokhehacfnaaGreatDoor
open Go.RowKit

theorem At.append {w : World} {b off : Nat} {xs ys : List Value} (h : At w b off xs) (k : At w b (off + xs.length) ys) : At w b off (xs ++ ys) := by
  intro j u hu
  rw [List.getElem?_append] at hu
  by_cases hj : j < xs.length
  · rw [if_pos hj] at hu; exact h j u hu
  · rw [if_neg hj] at hu
    have := k _ u hu
    rwa [show off + xs.length + (j - xs.length) = off + j by omega] at this
theorem At.flatten {w : World} {b size : Nat} : ∀ {l : List (List Value)} {off : Nat}, (∀ x ∈ l, x.length = size) → (∀ (i : Nat) cs, l[i]? = some cs → At w b (off + i * size) cs) → At w b off l.flatten
  | [], _, _, _ => fun j u hu => by simp at hu
  | x :: r, off, hs, h => by
    rw [List.flatten_cons]
    refine At.append (by simpa using h 0 x rfl) (At.flatten (fun y hy => hs y (by simp [hy])) fun i cs hi => ?_)
    have := h (i + 1) cs (by simpa using hi)
    rwa [show off + (i + 1) * size = off + x.length + i * size by rw [hs x (by simp), Nat.add_mul]; omega] at this
theorem flatten_length {size : Nat} : ∀ {l : List (List Value)}, (∀ x ∈ l, x.length = size) → l.flatten.length = l.length * size
  | [], _ => by simp
  | x :: r, hs => by
    rw [List.flatten_cons, List.length_append, hs x (by simp), flatten_length (fun y hy => hs y (by simp [hy])), List.length_cons, Nat.add_mul]
    omega
theorem flatten_at {size : Nat} : ∀ {l : List (List Value)}, (∀ x ∈ l, x.length = size) → ∀ (i : Nat) cs, l[i]? = some cs → ∀ (j : Nat) u, cs[j]? = some u → l.flatten[i * size + j]? = some u
  | [], _, _, _, hi, _, _, _ => by simp at hi
  | x :: r, hs, 0, cs, hi, j, u, hu => by
    simp at hi; subst hi
    rw [List.flatten_cons, Nat.zero_mul, Nat.zero_add, List.getElem?_append, if_pos (by have := (List.getElem?_eq_some_iff.1 hu).1; omega)]
    exact hu
  | x :: r, hs, i + 1, cs, hi, j, u, hu => by
    rw [List.flatten_cons, List.getElem?_append, if_neg (by rw [hs x (by simp), Nat.add_mul]; omega), hs x (by simp)]
    rw [show (i + 1) * size + j - size = i * size + j by rw [Nat.add_mul]; omega]
    exact flatten_at (fun y hy => hs y (by simp [hy])) i cs (by simpa using hi) j u hu

/-- Each element is of 'size' cells, one value a cell. -/
def Fit (size : Nat) (l : List (List Value)) : Prop := ∀ x ∈ l, x.length = size ∧ ∀ u ∈ x, u.oneCell' = true
theorem Fit.len {size : Nat} {l : List (List Value)} (h : Fit size l) : ∀ x ∈ l, x.length = size := fun x hx => (h x hx).1
theorem Fit.one {size : Nat} {l : List (List Value)} (h : Fit size l) : ∀ u ∈ l.flatten, u.oneCell' = true := fun u hu => by
  obtain ⟨x, hx, hux⟩ := List.mem_flatten.1 hu
  exact (h x hx).2 u hux
theorem Fit.nil_ {size : Nat} : Fit size [] := fun x hx => by simp at hx
theorem Fit.app {size : Nat} {xs ys : List (List Value)} (h : Fit size xs) (k : Fit size ys) : Fit size (xs ++ ys) := fun x hx => by
  rcases List.mem_append.1 hx with e | e
  · exact h x e
  · exact k x e
theorem Fit.map {α : Type} {size : Nat} {f : α → List Value} (hf : ∀ a, (f a).length = size ∧ ∀ u ∈ f a, u.oneCell' = true) (l : List α) : Fit size (l.map f) := fun x hx => by
  obtain ⟨a, _, rfl⟩ := List.mem_map.1 hx
  exact hf a

/-- The slice value v owns the elements l in a block of the call's own, from block base on. -/
def Own (w : World) (base : Nat) (e : TypeId) (size : Nat) (v : Value) (l : List (List Value)) : Prop := w.ownsRow base e size v l.length l.flatten

theorem Own.nil_ (w : World) (base : Nat) (e : TypeId) (size : Nat) : Own w base e size (.slice none 0 0) [] := World.ownsRow_nil w base e size
theorem Own.lt {w : World} {base : Nat} {e : TypeId} {size : Nat} {v : Value} {l : List (List Value)} (h : Own w base e size v l) : ∀ k, v.ownBlock = some k → base ≤ k ∧ k < w.heap.size := World.ownsRow.lt h
theorem Own.keep {w w' : World} {base B : Nat} {e : TypeId} {size : Nat} {v : Value} {l : List (List Value)} (h : Own w base e size v l) (hb : Below B w w') (hB : w.heap.size ≤ B) : Own w' base e size v l := by
  refine ⟨h.1, ?_⟩
  rcases h.2 with h2 | ⟨g, cap, cur, hv, hg, hh, r⟩
  · exact .inl h2
  · exact .inr ⟨g, cap, cur, hv, hg, by rw [hb.block g (by have := (Array.getElem?_eq_some_iff.1 hh).1; omega)]; exact hh, r⟩
theorem Own.alloc {w : World} {base : Nat} {e : TypeId} {size : Nat} {v : Value} {l : List (List Value)} (h : Own w base e size v l) (o : Obj) : Own (w.alloc o) base e size v l := World.ownsRow.alloc h o
theorem Own.more {w : World} {base base' : Nat} {e : TypeId} {size : Nat} {v : Value} {l : List (List Value)} (h : Own w base e size v l) (hb : base' ≤ base) : Own w base' e size v l := by
  refine ⟨h.1, ?_⟩
  rcases h.2 with h2 | ⟨g, cap, cur, hv, hg, r⟩
  · exact .inl h2
  · exact .inr ⟨g, cap, cur, hv, by omega, r⟩
/-- What the call owns reads as a slice. -/
theorem Own.reads {w : World} {base : Nat} {e : TypeId} {size : Nat} {v : Value} {l : List (List Value)} (h : Own w base e size v l) (hf : ∀ x ∈ l, x.length = size) :
    ∃ A cap, v = .slice A l.length cap ∧ l.length ≤ cap ∧ cap ≤ maxLen ∧ SlAt w w.heap.size size A l ∧ (∀ b off, A = some ⟨b, off, none⟩ → base ≤ b ∧ b < w.heap.size ∧ off = 0 ∧ ∀ o, w.frozen? ⟨b, o, none⟩ = false) := by
  rcases h.2 with ⟨rfl, hn⟩ | ⟨g, cap, cur, rfl, hg, hh, hnc, hcm, hcs, htake⟩
  · refine ⟨none, 0, by rw [hn], by omega, by simp [maxLen], fun hl => by omega, fun b off h => by cases h⟩
  · refine ⟨some ⟨g, 0, none⟩, cap, rfl, hnc, hcm, fun _ => ⟨g, 0, rfl, (Array.getElem?_eq_some_iff.1 hh).1, fun i cs hi j u hu => ?_⟩, ?_⟩
    · have hu' := flatten_at hf i cs hi j u hu
      rw [Nat.zero_add, cell_of_row w g _ cur e (0, 0) hh]
      rw [← htake, List.getElem?_take] at hu'
      split at hu'
      · simpa using hu'
      · cases hu'
    · intro b off hb
      simp at hb
      obtain ⟨rfl, rfl⟩ := hb
      exact ⟨hg, (Array.getElem?_eq_some_iff.1 hh).1, rfl, fun o => by simp [World.frozen?, hh]⟩

theorem Own.slice {w : World} {base : Nat} {e : TypeId} {size n : Nat} {v : Value} {l : List (List Value)} (h : Own w base e size v l) (hf : ∀ x ∈ l, x.length = size) (hn : l.length = n) :
    ∃ A cap, v = .slice A n cap ∧ n ≤ cap ∧ cap ≤ maxLen ∧ SlAt w w.heap.size size A l ∧ (∀ b off, A = some ⟨b, off, none⟩ → base ≤ b ∧ b < w.heap.size ∧ off = 0 ∧ ∀ o, w.frozen? ⟨b, o, none⟩ = false) := by
  subst hn; exact h.reads hf

/-- The element type's row of the table. -/
def EI (P : Program) (t e : TypeId) (size bytes : Nat) : Prop :=
  P.underlying t = some (.slice e) ∧ (∃ i z, P.info? e = some i ∧ i.zero = some z ∧ i.size = size ∧ i.bytes = bytes ∧ z.cells.size = size) ∧ 0 < size ∧ 0 < bytes

theorem below_of_grown {w w' : World} {base : Nat} {e : TypeId} {size : Nat} {v : Value} {l : List (List Value)} (h : Own w base e size v l) (hg : w.grownBy w' v.ownBlock) (hb : base ≤ w.heap.size) : Below base w w' :=
  (Below.refl _ _).grown hg hb fun k hk => (h.lt k hk).1

section
variable {P : Program} {w : World}
theorem run_append_sl {t ty e : TypeId} {size bytes : Nat} (hei : EI P t e size bytes) {base : Nat} {v : Value} {xs : List (List Value)} (hown : Own w base e size v xs)
    {A : Option Addr} {c : Nat} {ys : List (List Value)} (hr : SlAt w w.heap.size size A ys) (hys : Fit size ys) (hlen : (xs.length + ys.length) * bytes ≤ 140737488355328) (hbase : base ≤ w.heap.size) :
    ∃ v' w', (Builtin.append_ #[t, t] ty #[v, .slice A ys.length c]).run P w = .ok v' w' ∧ Own w' base e size v' (xs ++ ys) ∧ w.grownBy w' v.ownBlock := by
  obtain ⟨ht, ⟨i, z, hi, hz, hsize, hby, hzs⟩, hsz, hbz⟩ := hei
  have hle : xs.length + ys.length ≤ 140737488355328 := Nat.le_trans (Nat.le_mul_of_pos_right _ hbz) hlen
  have hfl : ys.flatten.length = ys.length * size := flatten_length hys.len
  have key : ∀ ad : Addr, (∀ j u, ys.flatten[j]? = some u → w.cell? (ad.add j) = some u) → ∃ v' w', (Builtin.append_ #[t, t] ty #[v, .slice (some ad) ys.length c]).run P w = .ok v' w' ∧ Own w' base e size v' (xs ++ ys) ∧ w.grownBy w' v.ownBlock := by
    intro ad hc
    obtain ⟨v', w', hrun, h2, h3, _, _⟩ := run_append_own_at (P := P) w base t ty e i z size bytes ht hi hz hsize hby hzs hsz v xs.length xs.flatten hown ad ys.length c ys.flatten hfl hc hys.one (by simp only [maxLen]; omega) hlen hbase
    refine ⟨v', w', hrun, ?_, h3⟩
    unfold Own
    rw [List.length_append, List.flatten_append]
    exact h2
  by_cases hy : ys = []
  · subst hy
    cases A with
    | none =>
      refine ⟨v, w, ?_, by simpa using hown, World.grownBy.refl w _⟩
      rcases hown.2 with ⟨rfl, _⟩ | ⟨g, cap, cur, rfl, _, _, hnc, _⟩
      · simp [Builtin.append_, run_underlying ht, sizeOf, typeInfo, hi, Builtin.lenOf, Builtin.firstCells]
      · simp [Builtin.append_, run_underlying ht, sizeOf, typeInfo, hi, Builtin.lenOf, Builtin.firstCells, hnc, storeCells]
    | some ad => exact key ad fun j u hu => by simp at hu
  · obtain ⟨b, off, rfl, _, hc⟩ := hr (List.length_pos_iff.2 hy)
    have hat := At.flatten hys.len hc
    exact key _ fun j u hu => by rw [Addr.add_lit]; exact hat j u hu

theorem wp_append_sl {o : Oper} {a : Act} {K : Act → World → Prop} {Q : Exit → Act → World → Prop} (s x : Operand) (t : TypeId)
    (ho : o.op = .call { callee := .builtin .append, args := #[s, x], argTypes := #[t, t] }) {e : TypeId} {size bytes : Nat} (hei : EI P t e size bytes)
    {base : Nat} {v : Value} {xs : List (List Value)} (hs : a.eval s = v) (hown : Own w base e size v xs) (hxs : Fit size xs)
    {A : Option Addr} {c : Nat} {ys : List (List Value)} {n : Nat} (hx : a.eval x = .slice A n c) (hn : n = ys.length) (hr : SlAt w w.heap.size size A ys) (hys : Fit size ys)
    (hlen : (xs.length + ys.length) * bytes ≤ 140737488355328) (hbase : base ≤ w.heap.size)
    {N : Nat} (hN : xs.length + ys.length = N) (h : ∀ (A' : Option Addr) (cap' : Nat) w', N ≤ cap' → cap' ≤ maxLen → Own w' base e size (.slice A' N cap') (xs ++ ys) → w.grownBy w' v.ownBlock → Below base w w' → K (a.put o.dst (.slice A' N cap')) w') : o.wp P a w K Q := by
  subst hn
  obtain ⟨v', w', hrun, h2, h3⟩ := run_append_sl (P := P) (ty := o.type) hei hown hr (c := c) hys hlen hbase
  unfold Oper.wp execOp
  simp only [ho, resolve, invoke, builtin, Sem.run_bind, Sem.run_pure, Result.andThen_ok, List.map_toArray, List.map_cons, List.map_nil, hs, hx, hrun]
  obtain ⟨A', cap', hv, hc1, hc2, _⟩ := h2.slice (n := N) (hxs.app hys).len (by rw [List.length_append]; exact hN)
  subst hv
  exact h A' cap' w' hc1 hc2 h2 h3 (below_of_grown hown h3 hbase)

theorem wpList_append_sl {ops : Array Oper} {rest : List Oper} {o : Oper} {a : Act} {Q : Exit → Act → World → Prop} (hgd : o.guard = none) (s x : Operand) (t : TypeId)
    (ho : o.op = .call { callee := .builtin .append, args := #[s, x], argTypes := #[t, t] }) {e : TypeId} {size bytes : Nat} (hei : EI P t e size bytes)
    {base : Nat} {v : Value} {xs : List (List Value)} (hs : a.eval s = v) (hown : Own w base e size v xs) (hxs : Fit size xs)
    {A : Option Addr} {c : Nat} {ys : List (List Value)} {n : Nat} (hx : a.eval x = .slice A n c) (hn : n = ys.length) (hr : SlAt w w.heap.size size A ys) (hys : Fit size ys)
    (hlen : (xs.length + ys.length) * bytes ≤ 140737488355328) (hbase : base ≤ w.heap.size)
    {N : Nat} (hN : xs.length + ys.length = N) (h : ∀ (A' : Option Addr) (cap' : Nat) w', N ≤ cap' → cap' ≤ maxLen → Own w' base e size (.slice A' N cap') (xs ++ ys) → w.grownBy w' v.ownBlock → Below base w w' → wpList P ops Q rest (a.put o.dst (.slice A' N cap')) w') : wpList P ops Q (o :: rest) a w :=
  wpList_plain hgd fun _ hK => wp_append_sl s x t ho hei hs hown hxs hx hn hr hys hlen hbase hN fun A' cap' w' h2 h3 h4 h5 h6 => hK _ _ (h A' cap' w' h2 h3 h4 h5 h6)

theorem step_append_sl {ops : Array Oper} {o : Oper} {a : Act} {K : Act → World → Prop} {Q : Exit → Act → World → Prop} {E : Prop} (hgd : o.guard = none) (s x : Operand) (t : TypeId)
    (ho : o.op = .call { callee := .builtin .append, args := #[s, x], argTypes := #[t, t] }) {e : TypeId} {size bytes : Nat} (hei : EI P t e size bytes)
    {base : Nat} {v : Value} {xs : List (List Value)} (hs : a.eval s = v) (hown : Own w base e size v xs) (hxs : Fit size xs)
    {A : Option Addr} {c : Nat} {ys : List (List Value)} {n : Nat} (hx : a.eval x = .slice A n c) (hn : n = ys.length) (hr : SlAt w w.heap.size size A ys) (hys : Fit size ys)
    (hlen : (xs.length + ys.length) * bytes ≤ 140737488355328) (hbase : base ≤ w.heap.size)
    {N : Nat} (hN : xs.length + ys.length = N) (h : ∀ (A' : Option Addr) (cap' : Nat) w', N ≤ cap' → cap' ≤ maxLen → Own w' base e size (.slice A' N cap') (xs ++ ys) → w.grownBy w' v.ownBlock → Below base w w' → K (a.put o.dst (.slice A' N cap')) w') :
    if Region.wanted o (yielded ops a.tmps) = true then Oper.wp P o a w K Q else E := by
  have hw : Region.wanted o (yielded ops a.tmps) = true := by simp [Region.wanted, hgd]
  rw [if_pos hw]
  exact wp_append_sl s x t ho hei hs hown hxs hx hn hr hys hlen hbase hN h
end

/-- A row of its own block reads as a slice. -/
theorem SlAt.of_at {w : World} {b B size : Nat} {l : List (List Value)} (h : At w b 0 l.flatten) (hb : b < B) (hf : ∀ x ∈ l, x.length = size) : SlAt w B size (some ⟨b, 0, none⟩) l := fun _ =>
  ⟨b, 0, rfl, hb, fun i cs hi j u hu => by
    have := h (i * size + j) u (flatten_at hf i cs hi j u hu)
    rwa [← Nat.add_assoc] at this⟩
theorem SlAt.new {w : World} {size : Nat} {l : List (List Value)} {cs : List Value} {t : TypeId} (he : cs = l.flatten) (hf : ∀ x ∈ l, x.length = size) : SlAt (w.alloc (.cells cs.toArray t)) (w.alloc (.cells cs.toArray t)).heap.size size (some ⟨w.heap.size, 0, none⟩) l := by
  subst he
  exact SlAt.of_at (At.new w _ t) (by simp) hf

/-- One element in a new block. -/
theorem SlAt.one (w : World) (size : Nat) (cs : List Value) (t : TypeId) : SlAt (w.alloc (.cells cs.toArray t)) (w.alloc (.cells cs.toArray t)).heap.size size (some ⟨w.heap.size, 0, none⟩) [cs] := by
  intro _
  refine ⟨w.heap.size, 0, rfl, by simp, fun i x hi => ?_⟩
  cases i with
  | zero => simp at hi; subst hi; simpa using At.new w cs t
  | succ i => simp at hi

theorem Col.fit (c : Col) : c.cells.length = 3 ∧ ∀ u ∈ c.cells, u.oneCell' = true := by
  refine ⟨rfl, fun u hu => ?_⟩
  simp [Col.cells] at hu
  rcases hu with rfl | rfl | rfl <;> rfl
theorem cols_fit (l : List Col) : Fit 3 (l.map Col.cells) := Fit.map Col.fit l

end Go.Proofs.YtnphokhehacfnaaGreatDoor
namespace Go.Proofs.YtnphokhehacfnaaGreatDoor
open Go.RowKit

/-- Block g is a row of cells cur of element type e, none frozen. -/
def Blk (w : World) (g : Nat) (e : TypeId) (cur : List Value) : Prop := w.heap[g]? = some (.cells cur.toArray e (0, 0))

theorem Blk.lt {w : World} {g : Nat} {e : TypeId} {cur : List Value} (h : Blk w g e cur) : g < w.heap.size := (Array.getElem?_eq_some_iff.1 h).1
theorem Blk.at0 {w : World} {g : Nat} {e : TypeId} {cur : List Value} (h : Blk w g e cur) : At w g 0 cur := fun j u hu => by
  rw [Nat.zero_add, cell_of_row w g j cur.toArray e (0, 0) h]
  simpa using hu
theorem Blk.free {w : World} {g : Nat} {e : TypeId} {cur : List Value} (h : Blk w g e cur) (o : Nat) : w.frozen? ⟨g, o, none⟩ = false := by
  unfold Blk at h
  simp [World.frozen?, h]
theorem Blk.below {w w' : World} {g B : Nat} {e : TypeId} {cur : List Value} (h : Blk w g e cur) (hb : Below B w w') (hlt : g < B) : Blk w' g e cur := (hb.block g hlt).trans h
theorem Blk.new (w : World) (cur : List Value) (e : TypeId) : Blk (w.alloc (.cells cur.toArray e)) w.heap.size e cur := heap_alloc_new w _
theorem Blk.alloc {w : World} {g : Nat} {e : TypeId} {cur : List Value} (h : Blk w g e cur) (o : Obj) : Blk (w.alloc o) g e cur := (Below.heap_alloc w o g h.lt).trans h
theorem Blk.drew {w : World} {g : Nat} {e : TypeId} {cur : List Value} (h : Blk w g e cur) : Blk w.drew g e cur := h
theorem Blk.grown {w w' : World} {g : Nat} {row : Option Nat} {e : TypeId} {cur : List Value} (h : Blk w g e cur) (hg : w.grownBy w' row) (hne : some g ≠ row) : Blk w' g e cur := (hg.block g h.lt hne).trans h
theorem Blk.ne_ {w : World} {g g' : Nat} {t t' : TypeId} {cs cs' : List Value} (h : Blk w g t cs) (h' : Blk w g' t' cs') (hne : t ≠ t') : g ≠ g' := by
  rintro rfl
  unfold Blk at h h'
  rw [h] at h'
  injection h' with h'
  injection h' with _ ht
  exact hne ht

theorem Blk.set_ {w : World} {g : Nat} {t : TypeId} {cs : List Value} (h : Blk w g t cs) (i : Nat) (u : Value) : Blk (w.setCell ⟨g, i, none⟩ u) g t (cs.set i u) := by
  unfold Blk at h ⊢
  simp [World.setCell, Array.getElem?_modify, h]
theorem Blk.far {w : World} {g : Nat} {t : TypeId} {cs : List Value} (h : Blk w g t cs) {p : Addr} (hp : g ≠ p.block) (u : Value) : Blk (w.setCell p u) g t cs := (Below.heap_setCell w p u g hp).trans h
theorem Own.ne_ {w : World} {base : Nat} {e t : TypeId} {size p : Nat} {v : Value} {l : List (List Value)} {cs : List Value} (h : Own w base e size v l) (hp : Blk w p t cs) (hne : e ≠ t) : some p ≠ v.ownBlock := by
  rcases h.2 with ⟨rfl, _⟩ | ⟨g, cap, cur, rfl, _, hh, _⟩
  · simp [Value.ownBlock]
  · intro he
    have he' : p = g := by simpa [Value.ownBlock] using he
    subst he'
    unfold Blk at hp
    rw [hp] at hh
    injection hh with hh
    injection hh with _ ht
    exact hne ht.symm
theorem Own.set_other {w : World} {base : Nat} {e t : TypeId} {size p : Nat} {v : Value} {l : List (List Value)} {cs : List Value} (h : Own w base e size v l) (hp : Blk w p t cs) (hne : e ≠ t) (i : Nat) (u : Value) :
    Own (w.setCell ⟨p, i, none⟩ u) base e size v l := by
  have hx := h.ne_ hp hne
  refine ⟨h.1, ?_⟩
  rcases h.2 with h2 | ⟨g, cap, cur, hv, hg, hh, r⟩
  · exact .inl h2
  · refine .inr ⟨g, cap, cur, hv, hg, ?_, r⟩
    rw [Below.heap_setCell _ _ _ _ (by intro e; apply hx; rw [hv]; simp [Value.ownBlock]; exact e.symm)]
    exact hh
theorem Own.drew {w : World} {base : Nat} {e : TypeId} {size : Nat} {v : Value} {l : List (List Value)} (h : Own w base e size v l) : Own w.drew base e size v l := h
theorem Own.blk {w : World} {base : Nat} {e : TypeId} {size n cap : Nat} {A : Option Addr} {l : List (List Value)} (h : Own w base e size (.slice A n cap) l) (hn : 0 < l.length) :
    ∃ g cur, A = some ⟨g, 0, none⟩ ∧ l.length = n ∧ base ≤ g ∧ Blk w g e cur ∧ n ≤ cap ∧ cap ≤ maxLen ∧ cur.length = cap * size ∧ cur.take (n * size) = l.flatten := by
  rcases h.2 with ⟨h1, h2⟩ | ⟨g, cap', cur, hv, hg, hh, hnc, hcm, hcs, htake⟩
  · omega
  · injection hv with h1 h2 h3
    subst h1; subst h2; subst h3
    exact ⟨g, cur.toList, rfl, rfl, hg, by simpa [Blk] using hh, hnc, hcm, by simpa using hcs, htake⟩
theorem Own.of_blk {w : World} {base g : Nat} {e : TypeId} {size n cap : Nat} {cur : List Value} {l : List (List Value)} (hg : Blk w g e cur) (hb : base ≤ g) (hl : l.length = n) (hf : ∀ x ∈ l, x.length = size) (hnc : n ≤ cap) (hcm : cap ≤ maxLen)
    (hcs : cur.length = cap * size) (ht : cur.take (n * size) = l.flatten) : Own w base e size (.slice (some ⟨g, 0, none⟩) n cap) l := by
  subst hl
  exact ⟨flatten_length hf, .inr ⟨g, cap, cur.toArray, rfl, hb, hg, hnc, hcm, by simpa using hcs, by simpa using ht⟩⟩

theorem store3 {w : World} {r : Nat} {t : TypeId} {a b c : Value} (h : Blk w r t [a, b, c]) (v0 v1 v2 : Value) : At (((w.setCell ⟨r, 0, none⟩ v0).setCell ⟨r, 1, none⟩ v1).setCell ⟨r, 2, none⟩ v2) r 0 [v0, v1, v2] :=
  (((h.set_ 0 v0).set_ 1 v1).set_ 2 v2).at0
theorem below3 {w0 w : World} {B r : Nat} (hb : Below B w0 w) (hr : B ≤ r) (v0 v1 v2 : Value) : Below B w0 (((w.setCell ⟨r, 0, none⟩ v0).setCell ⟨r, 1, none⟩ v1).setCell ⟨r, 2, none⟩ v2) :=
  ((hb.setCell hr v0).setCell hr v1).setCell hr v2
theorem Own.store3 {w : World} {base r : Nat} {e t : TypeId} {size : Nat} {v : Value} {l : List (List Value)} {a b c : Value} (h : Own w base e size v l) (hp : Blk w r t [a, b, c]) (hne : e ≠ t) (v0 v1 v2 : Value) :
    Own (((w.setCell ⟨r, 0, none⟩ v0).setCell ⟨r, 1, none⟩ v1).setCell ⟨r, 2, none⟩ v2) base e size v l :=
  ((h.set_other hp hne 0 v0).set_other (hp.set_ 0 v0) hne 1 v1).set_other ((hp.set_ 0 v0).set_ 1 v1) hne 2 v2

/-- The blocks that a function's own variables lie in. -/
def Blks (w : World) : List (Nat × TypeId × List Value) → Prop
  | [] => True
  | x :: r => Blk w x.1 x.2.1 x.2.2 ∧ Blks w r
theorem Blks.nil_ (w : World) : Blks w [] := trivial
theorem Blks.after {w w' : World} (hb : Below w.heap.size w w') : ∀ {l : List (Nat × TypeId × List Value)}, Blks w l → Blks w' l
  | [], _ => trivial
  | _ :: _, h => ⟨h.1.below hb h.1.lt, Blks.after hb h.2⟩
theorem Blks.al {w : World} (o : Obj) : ∀ {l : List (Nat × TypeId × List Value)}, Blks w l → Blks (w.alloc o) l
  | [], _ => trivial
  | _ :: _, h => ⟨h.1.alloc o, Blks.al o h.2⟩
theorem Blks.push {w : World} {l : List (Nat × TypeId × List Value)} (h : Blks w l) (t : TypeId) (cs : List Value) : Blks (w.alloc (.cells cs.toArray t)) ((w.heap.size, t, cs) :: l) := ⟨Blk.new w cs t, h.al _⟩

/-- What a function does that works on the struct in block p whose slice is v. -/
structure Turned (w w' : World) (p : Nat) (v : Value) : Prop where
  os : w'.os = w.os
  tape : w'.tape = w.tape
  output : w'.output = w.output
  size : w.heap.size ≤ w'.heap.size
  block : ∀ k, k < w.heap.size → k ≠ p → some k ≠ v.ownBlock → w'.heap[k]? = w.heap[k]?
theorem Turned.below {w w' : World} {p B : Nat} {v : Value} (h : Turned w w' p v) (hp : B ≤ p) (hv : ∀ k, v.ownBlock = some k → B ≤ k) (hB : B ≤ w.heap.size) : Below B w w' :=
  ⟨h.os, h.tape, h.output, h.size, fun k hk => h.block k (by omega) (by omega) fun e => by have := hv k e.symm; omega⟩
theorem Turned.of_grown {w w' : World} {p : Nat} {v : Value} (h : w.grownBy w' v.ownBlock) : Turned w w' p v := ⟨h.os, h.tape, h.output, h.size, fun k hk _ hn => h.block k hk hn⟩
theorem Turned.set_ {w w' : World} {p : Nat} {v : Value} (h : Turned w w' p v) (i : Nat) (u : Value) : Turned w (w'.setCell ⟨p, i, none⟩ u) p v :=
  ⟨h.os, h.tape, h.output, by simpa [World.setCell] using h.size, fun k hk hp hn => (Below.heap_setCell w' _ u k hp).trans (h.block k hk hp hn)⟩
theorem Turned.of_alloc {w w' : World} {p : Nat} {v : Value} {o : Obj} (h : Turned (w.alloc o) w' p v) : Turned w w' p v :=
  ⟨h.os, h.tape, h.output, by have := h.size; simp at this; omega, fun k hk hp hn => (h.block k (by simp; omega) hp hn).trans (Below.heap_alloc w o k hk)⟩
theorem Turned.of_drew {w w' : World} {p : Nat} {v : Value} (h : Turned w.drew w' p v) : Turned w w' p v := ⟨h.os, h.tape, h.output, h.size, h.block⟩
theorem Turned.refl (w : World) (p : Nat) (v : Value) : Turned w w p v := ⟨rfl, rfl, rfl, Nat.le_refl _, fun _ _ _ _ => rfl⟩

section
variable {P : Program} {w : World}
theorem grown_setRow (w : World) (g : Nat) (cs : Array Value) : w.grownBy (w.setRow g cs) (some g) :=
  ⟨rfl, rfl, rfl, by simp, fun k _ hk => setRow_other w g k cs (fun e => hk (by rw [e]))⟩

theorem run_append_row {t ty e : TypeId} {size bytes : Nat} (hei : EI P t e size bytes) {g n cap : Nat} {cur : List Value} (hg : Blk w g e cur)
    {A : Option Addr} {c : Nat} {ys : List (List Value)} (hr : SlAt w w.heap.size size A ys) (hys : Fit size ys) (hroom : n + ys.length ≤ cap) (hcur : cur.length = cap * size) :
    ∃ w', (Builtin.append_ #[t, t] ty #[.slice (some ⟨g, 0, none⟩) n cap, .slice A ys.length c]).run P w = .ok (.slice (some ⟨g, 0, none⟩) (n + ys.length) cap) w' ∧
      Blk w' g e (cur.take (n * size) ++ ys.flatten ++ cur.drop (n * size + ys.flatten.length)) ∧ w.grownBy w' (some g) := by
  obtain ⟨ht, ⟨i, z, hi, hz, hsize, hby, hzs⟩, hsz, hbz⟩ := hei
  subst hsize
  have hfl : ys.flatten.length = ys.length * i.size := flatten_length hys.len
  have hfit : n * i.size + ys.flatten.length ≤ cur.toArray.size := by
    rw [hfl, List.size_toArray, hcur, ← Nat.add_mul]
    exact Nat.mul_le_mul_right _ hroom
  have key : ∀ ad : Addr, (∀ j u, ys.flatten[j]? = some u → w.cell? (ad.add j) = some u) → ∃ w', (Builtin.append_ #[t, t] ty #[.slice (some ⟨g, 0, none⟩) n cap, .slice (some ad) ys.length c]).run P w = .ok (.slice (some ⟨g, 0, none⟩) (n + ys.length) cap) w' ∧
      Blk w' g e (cur.take (n * i.size) ++ ys.flatten ++ cur.drop (n * i.size + ys.flatten.length)) ∧ w.grownBy w' (some g) := by
    intro ad hc
    have hr := run_append_room (P := P) w t ty e i ht hi g n cap cur.toArray hg ad ys.length c ys.flatten hfl hc hys.one hroom hfit
    exact ⟨_, hr, setRow_heap w g cur.toArray _ e _ hg, grown_setRow w g _⟩
  by_cases hy : ys = []
  · subst hy
    cases A with
    | none =>
      refine ⟨w, ?_, by simpa using hg, World.grownBy.refl w _⟩
      simp only [List.length_nil] at hroom
      have hroom' : n ≤ cap := by omega
      simp [Builtin.append_, run_underlying ht, sizeOf, typeInfo, hi, Builtin.lenOf, Builtin.firstCells, hroom', storeCells]
    | some ad => exact key ad fun j u hu => by simp at hu
  · obtain ⟨b, off, rfl, _, hc⟩ := hr (List.length_pos_iff.2 hy)
    have hat := At.flatten hys.len hc
    exact key _ fun j u hu => by rw [Addr.add_lit]; exact hat j u hu

theorem step_append_row {ops : Array Oper} {o : Oper} {a : Act} {K : Act → World → Prop} {Q : Exit → Act → World → Prop} {E : Prop} (hgd : o.guard = none) (s x : Operand) (t : TypeId)
    (ho : o.op = .call { callee := .builtin .append, args := #[s, x], argTypes := #[t, t] }) {e : TypeId} {size bytes : Nat} (hei : EI P t e size bytes)
    {g n cap : Nat} {cur : List Value} (hs : a.eval s = .slice (some ⟨g, 0, none⟩) n cap) (hg : Blk w g e cur)
    {A : Option Addr} {c : Nat} {ys : List (List Value)} {m : Nat} (hx : a.eval x = .slice A m c) (hm : m = ys.length) (hr : SlAt w w.heap.size size A ys) (hys : Fit size ys)
    (hroom : n + ys.length ≤ cap) (hcur : cur.length = cap * size)
    (h : ∀ w', Blk w' g e (cur.take (n * size) ++ ys.flatten ++ cur.drop (n * size + ys.flatten.length)) → w.grownBy w' (some g) → K (a.put o.dst (.slice (some ⟨g, 0, none⟩) (n + m) cap)) w') :
    if Region.wanted o (yielded ops a.tmps) = true then Oper.wp P o a w K Q else E := by
  subst hm
  have hw : Region.wanted o (yielded ops a.tmps) = true := by simp [Region.wanted, hgd]
  rw [if_pos hw]
  obtain ⟨w', hrun, h2, h3⟩ := run_append_row (P := P) (ty := o.type) hei (n := n) hg hr (c := c) hys hroom hcur
  unfold Oper.wp execOp
  simp only [ho, resolve, invoke, builtin, Sem.run_bind, Sem.run_pure, Result.andThen_ok, List.map_toArray, List.map_cons, List.map_nil, hs, hx, hrun]
  exact h w' h2 h3

theorem run_clear_row {t e ty : TypeId} {z : Value} {size : Nat} (ht : P.underlying t = some (.slice e)) (hv : ∀ w, (zeroValue e).run P w = .ok z w) (hz : z.cells.size = size) (h1 : ∀ u ∈ z.cells.toList, u.oneCell' = true)
    {g o c : Nat} {cur : List Value} (hg : Blk w g e cur) (hfit : o + size ≤ cur.length) :
    ∃ w', (Builtin.clear_ #[t] ty #[.slice (some ⟨g, o, none⟩) 1 c]).run P w = .ok (.tuple #[]) w' ∧ Blk w' g e (cur.take o ++ z.cells.toList ++ cur.drop (o + size)) ∧ w.grownBy w' (some g) := by
  subst hz
  have hzc : (Builtin.zeroCells z.cells 1).toList = z.cells.toList := by
    simp only [Builtin.zeroCells]
    apply List.ext_getElem
    · simp
    · intro i h1 h2
      have : i < z.cells.size := by simpa using h2
      simp [Nat.mod_eq_of_lt this, getElem!_pos z.cells i this]
  have hst := run_storeCells_at P g o e z.cells.toList 0 cur.toArray w hg (by simpa using hfit) h1
  simp only [Nat.add_zero] at hst
  refine ⟨_, ?_, setRow_heap w g cur.toArray _ e _ hg, grown_setRow w g _⟩
  · simp only [Array.length_toList] at hst
    simp [Builtin.clear_, run_underlying ht, hv, hzc, hst]
end
end Go.Proofs.YtnphokhehacfnaaGreatDoor
namespace Go.Proofs.YtnphokhehacfnaaGreatDoor
open Go.RowKit

theorem eiCol : EI Tryz.prog 22 90 3 32 :=
  ⟨Tryz.underlying22, info_parts (show (Tryz.prog.info? 90).map (fun i => (i.zero, i.size, i.bytes)) = some (some (.agg #[.int .i64 0, .string .empty, .int .i64 0]), 3, 32) by kernel_rfl) |>.elim fun i h => ⟨i, _, h.1, h.2.1, h.2.2.1, h.2.2.2, rfl⟩, by decide, by decide⟩

theorem At.of_take {w : World} {b off n : Nat} {cs xs : List Value} (h : At w b off cs) (ht : cs.take n = xs) : At w b off xs := fun j u hu => by
  rw [← ht, List.getElem?_take] at hu
  split at hu
  · exact h j u hu
  · cases hu
theorem At.of_flatten {w : World} {b size : Nat} : ∀ {l : List (List Value)} {off : Nat}, (∀ x ∈ l, x.length = size) → At w b off l.flatten → ∀ (i : Nat) cs, l[i]? = some cs → At w b (off + i * size) cs := by
  intro l off hs h i cs hi j u hu
  have := h (i * size + j) u (flatten_at hs i cs hi j u hu)
  rwa [← Nat.add_assoc] at this
theorem flatten_take {size : Nat} : ∀ {l : List (List Value)}, (∀ x ∈ l, x.length = size) → ∀ k, l.flatten.take (k * size) = (l.take k).flatten
  | [], _, _ => by simp
  | x :: r, hs, 0 => by simp
  | x :: r, hs, k + 1 => by
    have hx := hs x (by simp)
    rw [List.flatten_cons, List.take_succ_cons, List.flatten_cons, List.take_append, hx, show (k + 1) * size - size = k * size by rw [Nat.add_mul]; omega, flatten_take (fun y hy => hs y (by simp [hy])),
      List.take_of_length_le (by rw [hx, Nat.add_mul]; omega)]

theorem take_app3 {α : Type} (a b c : List α) (n : Nat) (h : n = a.length + b.length) : (a ++ b ++ c).take n = a ++ b := by
  subst h
  rw [← List.length_append, List.take_left]
end Go.Proofs.YtnphokhehacfnaaGreatDoor
namespace Go.Proofs.YtnphokhehacfnaaGreatDoor
open Go.RowKit

/-- The world w' came right behind w: a call has returned, a loop has gone on. -/
class Step (w : outParam World) (w' : World) : Prop where
  below : Below w.heap.size w w'
/-- The world w' came some time behind w. -/
class Fut (w w' : World) : Prop where
  below : Below w.heap.size w w'
/-- Block b is not one of w's. -/
class Newer (w : World) (b : Nat) : Prop where
  le : w.heap.size ≤ b

instance Fut.self (w : World) : Fut w w := ⟨Below.refl _ _⟩
instance Fut.alloc_ {w W : World} [h : Fut w W] (o : Obj) : Fut w (W.alloc o) := ⟨h.below.alloc h.below.size o⟩
instance Fut.drew_ {w W : World} [h : Fut w W] : Fut w W.drew := ⟨h.below.drew⟩
instance Fut.drewN_ {w W : World} {n : Nat} [h : Fut w W] : Fut w (W.drewN n) := ⟨⟨h.below.os, h.below.tape, h.below.output, h.below.size, h.below.block⟩⟩
instance Fut.step_ {w W w' : World} [k : Step W w'] [h : Fut w W] : Fut w w' := ⟨h.below.trans (k.below.mono h.below.size)⟩
instance Newer.self (w : World) : Newer w w.heap.size := ⟨Nat.le_refl _⟩
instance Newer.fut {w W : World} [h : Fut w W] : Newer w W.heap.size := ⟨h.below.size⟩
instance Newer.add {w : World} {b k : Nat} [h : Newer w b] : Newer w (b + k) := ⟨Nat.le_trans h.le (Nat.le_add_right _ _)⟩
instance Fut.set_ {w W : World} {b o : Nat} {u : Value} [h : Fut w W] [k : Newer w b] : Fut w (W.setCell ⟨b, o, none⟩ u) := ⟨h.below.setCell (p := ⟨b, o, none⟩) k.le u⟩

theorem fut (w w' : World) [h : Fut w w'] : Below w.heap.size w w' := h.below
theorem Step.of {w w' : World} [h : Fut w w'] : Step w w' := ⟨h.below⟩
theorem Step.mk' {w w' : World} (h : Below w.heap.size w w') : Step w w' := ⟨h⟩
theorem Fut.mk' {w w' : World} (h : Below w.heap.size w w') : Fut w w' := ⟨h⟩
/-- What the walk reads in old blocks. -/
theorem Step.reads {w w' : World} (h : Step w w') : (∀ b o, b < w.heap.size → w'.cell? ⟨b, o, none⟩ = w.cell? ⟨b, o, none⟩) ∧ (∀ b o, b < w.heap.size → w'.frozen? ⟨b, o, none⟩ = w.frozen? ⟨b, o, none⟩) := bcell h.below
theorem Step.size {w w' : World} (h : Step w w') : w.heap.size ≤ w'.heap.size := h.below.size

theorem SlAt.fut {w w' : World} {size : Nat} {A : Option Addr} {l : List (List Value)} (h : SlAt w w.heap.size size A l) [k : Fut w w'] : SlAt w' w'.heap.size size A l := (h.keep k.below).more k.below.size
/-- Element k, in whatever later world. -/
theorem SlAt.elem {w w' : World} {size : Nat} {A : Option Addr} {l : List (List Value)} (h : SlAt w w.heap.size size A l) (hf : Fut w w') {k : Nat} (hk : k < l.length) :
    ∃ b off, A = some ⟨b, off, none⟩ ∧ b < w.heap.size ∧ ∀ (i : Nat) cs, l[i]? = some cs → At w' b (off + i * size) cs := by
  obtain ⟨b, off, e, hlt, hc⟩ := h (by omega)
  exact ⟨b, off, e, hlt, fun i cs hi => (hc i cs hi).below hf.below hlt⟩

/-- The first of what a slice leads to. -/
theorem SlAt.pre {w : World} {B size : Nat} {A : Option Addr} {l l' : List (List Value)} (h : SlAt w B size A (l ++ l')) : SlAt w B size A l := by
  intro hl
  obtain ⟨b, off, e, hlt, hc⟩ := h (by simp; omega)
  exact ⟨b, off, e, hlt, fun i cs hi => hc i cs (by rw [List.getElem?_append, if_pos (List.getElem?_eq_some_iff.1 hi).1]; exact hi)⟩

theorem flatten_set {size : Nat} : ∀ {l : List (List Value)}, (∀ x ∈ l, x.length = size) → ∀ (k j : Nat) (cs : List Value) (u : Value), l[k]? = some cs → j < size → l.flatten.set (k * size + j) u = (l.set k (cs.set j u)).flatten
  | [], _, k, _, cs, _, h, _ => by simp at h
  | x :: r, hs, 0, j, cs, u, h, hj => by
    have hx := hs x (by simp)
    simp at h
    subst h
    simp only [List.flatten_cons, Nat.zero_mul, Nat.zero_add, List.set_cons_zero]
    rw [List.set_append_left _ _ (by omega)]
  | x :: r, hs, k + 1, j, cs, u, h, hj => by
    have hx := hs x (by simp)
    have ih := flatten_set (l := r) (fun y hy => hs y (by simp [hy])) k j cs u (by simpa using h) hj
    simp only [List.flatten_cons, List.set_cons_succ]
    rw [List.set_append_right _ _ (by rw [hx, Nat.add_mul]; omega), show (k + 1) * size + j - x.length = k * size + j by rw [hx, Nat.add_mul]; omega, ih]

/-- A cell of what the call owns is written over. -/
theorem Own.put {w : World} {base : Nat} {e : TypeId} {size n cap : Nat} {A : Option Addr} {l : List (List Value)} (h : Own w base e size (.slice A n cap) l) (hf : ∀ x ∈ l, x.length = size) {k j : Nat} {cs : List Value} (hk : l[k]? = some cs) (hj : j < size) :
    ∃ g, A = some ⟨g, 0, none⟩ ∧ base ≤ g ∧ g < w.heap.size ∧ At w g (k * size) cs ∧ (∀ o, w.frozen? ⟨g, o, none⟩ = false) ∧ ∀ u, Own (w.setCell ⟨g, k * size + j, none⟩ u) base e size (.slice A n cap) (l.set k (cs.set j u)) := by
  have hlt := (List.getElem?_eq_some_iff.1 hk).1
  obtain ⟨g, cur, rfl, hn, hg, hb, hnc, hcm, hcs, htake⟩ := h.blk (by omega)
  refine ⟨g, rfl, hg, hb.lt, ?_, hb.free, fun u => ?_⟩
  · have h1 := At.of_flatten (off := 0) hf (l := l) (b := g) (w := w) (by
      rw [← htake]
      intro j' u' hu'
      rw [List.getElem?_take] at hu'
      split at hu'
      · exact hb.at0 j' u' hu'
      · cases hu') k cs hk
    simpa using h1
  · refine Own.of_blk (hb.set_ (k * size + j) u) hg (by simpa using hn) ?_ hnc hcm (by simpa using hcs) ?_
    · intro x hx
      rcases List.mem_or_eq_of_mem_set hx with hx | rfl
      · exact hf x hx
      · have := hf cs (List.mem_of_getElem? hk); simpa using this
    · rw [List.take_set, htake, flatten_set hf k j cs u hk hj]
theorem Own.fut {w w' : World} {base : Nat} {e : TypeId} {size : Nat} {v : Value} {l : List (List Value)} (h : Own w base e size v l) [k : Fut w w'] : Own w' base e size v l := h.keep k.below (Nat.le_refl _)
theorem Blk.fut {w w' : World} {g : Nat} {e : TypeId} {cur : List Value} (h : Blk w g e cur) [k : Fut w w'] : Blk w' g e cur := h.below k.below h.lt
/-- What the call owns, read. -/
theorem Own.sl {w : World} {base : Nat} {e : TypeId} {size n cap : Nat} {A : Option Addr} {l : List (List Value)} (h : Own w base e size (.slice A n cap) l) (hf : ∀ x ∈ l, x.length = size) : SlAt w w.heap.size size A l := by
  obtain ⟨A', cap', hv, _, _, hs, _⟩ := h.reads hf
  injection hv with h1 h2 h3
  subst h1
  exact hs
/-- What the address leads to lies in blocks from n on. -/
def Abv (n : Nat) (A : Option Addr) : Prop := ∀ b o, A = some ⟨b, o, none⟩ → n ≤ b
theorem Abv.mono {n m : Nat} {A : Option Addr} (h : Abv n A) (hm : m ≤ n) : Abv m A := fun b o e => Nat.le_trans hm (h b o e)
/-- A store into an older block. -/
theorem SlAt.put {w : World} {size n : Nat} {A : Option Addr} {l : List (List Value)} (h : SlAt w w.heap.size size A l) (ha : Abv n A) {b o : Nat} (hb : b < n) (u : Value) : SlAt (w.setCell ⟨b, o, none⟩ u) (w.setCell ⟨b, o, none⟩ u).heap.size size A l := by
  intro hl
  obtain ⟨g, off, e, hlt, hc⟩ := h hl
  have hg := ha g off e
  have hz : (w.setCell ⟨b, o, none⟩ u).heap.size = w.heap.size := by simp [World.setCell]
  exact ⟨g, off, e, by rw [hz]; exact hlt, fun i cs hi => (hc i cs hi).keep fun o' => World.cell?_of_block (w := w) (Below.heap_setCell w _ u g (by simp; omega))⟩
theorem SlAt.one_at {w : World} {b : Nat} (hb : w.heap.size = b) (size : Nat) (cs : List Value) (t : TypeId) : SlAt (w.alloc (.cells cs.toArray t)) (w.alloc (.cells cs.toArray t)).heap.size size (some ⟨b, 0, none⟩) [cs] := by
  subst hb
  exact SlAt.one w size cs t
theorem SlAt.new_at {w : World} {b : Nat} (hb : w.heap.size = b) {size : Nat} {l : List (List Value)} {cs : List Value} {t : TypeId} (he : cs = l.flatten) (hf : ∀ x ∈ l, x.length = size) : SlAt (w.alloc (.cells cs.toArray t)) (w.alloc (.cells cs.toArray t)).heap.size size (some ⟨b, 0, none⟩) l := by
  subst hb
  exact SlAt.new he hf
theorem Blk.new_at {w : World} {b : Nat} (hb : w.heap.size = b) (cur : List Value) (e : TypeId) : Blk (w.alloc (.cells cur.toArray e)) b e cur := by
  subst hb
  exact Blk.new w cur e
theorem SlAt.take_ {w : World} {B size : Nat} {A : Option Addr} {l : List (List Value)} (h : SlAt w B size A l) (k : Nat) : SlAt w B size A (l.take k) := by
  rw [← List.take_append_drop k l] at h
  exact h.pre
theorem grown_setCell (w : World) (g i : Nat) (u : Value) : w.grownBy (w.setCell ⟨g, i, none⟩ u) (some g) :=
  ⟨rfl, rfl, rfl, by simp [World.setCell], fun k _ hk => Below.heap_setCell w _ u k (fun e => hk (by rw [e]))⟩
theorem Own.grown_other {w w' : World} {base : Nat} {e : TypeId} {size : Nat} {v : Value} {l : List (List Value)} {row : Option Nat} (h : Own w base e size v l) (hg : w.grownBy w' row) (hne : ∀ k, v.ownBlock = some k → row ≠ some k) : Own w' base e size v l := by
  refine ⟨h.1, ?_⟩
  rcases h.2 with h2 | ⟨g, cap, cur, hv, hgb, hh, r⟩
  · exact .inl h2
  · refine .inr ⟨g, cap, cur, hv, hgb, ?_, r⟩
    rw [hg.block g (Array.getElem?_eq_some_iff.1 hh).1 (fun e => hne g (by rw [hv]; rfl) e.symm)]
    exact hh
/-- New memory that holds a few texts or numbers. -/
theorem SlAt.strs1 {w : World} {b : Nat} (hb : w.heap.size = b) (x0 : ByteArray) : SlAt (w.alloc (.cells #[.string x0] 9)) (w.alloc (.cells #[.string x0] 9)).heap.size 1 (some ⟨b, 0, none⟩) (strCells [x0]) :=
  SlAt.new_at hb (l := strCells [x0]) (cs := [.string x0]) rfl (by intro y hy; simp [strCells] at hy; rw [hy]; rfl)
theorem SlAt.ints1 {w : World} {b : Nat} (hb : w.heap.size = b) (x0 : Int) : SlAt (w.alloc (.cells #[.int .i64 x0] 3)) (w.alloc (.cells #[.int .i64 x0] 3)).heap.size 1 (some ⟨b, 0, none⟩) (intCells [x0]) :=
  SlAt.new_at hb (l := intCells [x0]) (cs := [.int .i64 x0]) rfl (by intro y hy; simp [intCells] at hy; rw [hy]; rfl)
theorem SlAt.strs2 {w : World} {b : Nat} (hb : w.heap.size = b) (x0 x1 : ByteArray) : SlAt (w.alloc (.cells #[.string x0, .string x1] 9)) (w.alloc (.cells #[.string x0, .string x1] 9)).heap.size 1 (some ⟨b, 0, none⟩) (strCells [x0, x1]) :=
  SlAt.new_at hb (l := strCells [x0, x1]) (cs := [.string x0, .string x1]) rfl (by intro y hy; simp [strCells] at hy; rcases hy with rfl | rfl <;> rfl)
theorem SlAt.ints2 {w : World} {b : Nat} (hb : w.heap.size = b) (x0 x1 : Int) : SlAt (w.alloc (.cells #[.int .i64 x0, .int .i64 x1] 3)) (w.alloc (.cells #[.int .i64 x0, .int .i64 x1] 3)).heap.size 1 (some ⟨b, 0, none⟩) (intCells [x0, x1]) :=
  SlAt.new_at hb (l := intCells [x0, x1]) (cs := [.int .i64 x0, .int .i64 x1]) rfl (by intro y hy; simp [intCells] at hy; rcases hy with rfl | rfl <;> rfl)
end Go.Proofs.YtnphokhehacfnaaGreatDoor

namespace Go.Proofs.YtnphokhehacfnaaGreatDoor
open Go.RowKit

/-- An operation that yields in every world that meets S is taken. -/
theorem wT {P : Program} {ops : Array Oper} {Q : Exit → Act → World → Prop} {md : Region.Mode} {S : World → Prop} (i d : Nat) {op : Op} {t : TypeId} {pos : String} {af : Array Edge} {gd : Option (Nat × Bool)} {v : Value} {fuel : Nat} {listed : Array Bool} {a a' : Act} {w : World}
    (hS : S w) (h : wpAnyH P md ops Q S fuel (listed.setIfInBounds i true) a' w) (hi : ops[i]? = some ⟨some d, op, t, pos, af, gd⟩ := by rfl)
    (hs : Region.noSelect ops = true := by kernel_rfl) (hf : Region.free md ops listed i = true := by kernel_rfl) (hr : (Region.ready md ops listed).contains i = true := by kernel_rfl)
    (hw : Region.wanted ⟨some d, op, t, pos, af, gd⟩ (yielded ops a.tmps) = true := by rfl)
    (hv : ∀ w, S w → (execOp a.eval ⟨some d, op, t, pos, af, gd⟩).run P w = .ok (.value v) w := by ((intro w hSw); (try dsimp only at hSw); go_simp; (try with_reducible rfl)))
    (he : a.put (some d) v = a' := by first | ((simp only [Act.put, List.setIfInBounds_toArray, List.set_cons_zero, List.set_cons_succ]) <;> rfl) | rfl)
    (hQ : ∀ c a w, Q (.panic c) (a.put (some d) v) w → Q (.panic c) a w := by exact fun _ _ _ h => h) : wpAnyH P md ops Q S (fuel + 1) listed a w := by
  subst he
  exact wpAnyH_take hi hs hf hr hQ (Or.inl ⟨hw, hv⟩) hS h
end Go.Proofs.YtnphokhehacfnaaGreatDoor

