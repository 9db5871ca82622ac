/-
  Laws on slices that the call itself makes, over any program: append of a list of structs, in a plain region and in one that draws its order.
-/
import Derived.Test.YtafgfehjdbomfaaDoorData
import Derived.Maps.AppendAt
import Derived.Deep.RegionLaw
namespace Go.Proofs.YtafgfehjdbomfaaDoor
open Go.RowKit

theorem At.append {w : World} {b off : Nat} {xs ys : List Value} (h : At w b off xs) (k : At w b (off + xs.length) ys) : At w b off (xs ++ ys) := by
  intro j u hu
  rw [List.getElem?_append] at hu
  by_cases hj : j < xs.length
  · rw [if_pos hj] at hu; exact h j u hu
  · rw [if_neg hj] at hu
    have := k _ u hu
    rwa [show off + xs.length + (j - xs.length) = off + j by omega] at this
theorem At.flatten {w : World} {b size : Nat} : ∀ {l : List (List Value)} {off : Nat}, (∀ x ∈ l, x.length = size) → (∀ (i : Nat) cs, l[i]? = some cs → At w b (off + i * size) cs) → At w b off l.flatten
  | [], _, _, _ => fun j u hu => by simp at hu
  | x :: r, off, hs, h => by
    rw [List.flatten_cons]
    refine At.append (by simpa using h 0 x rfl) (At.flatten (fun y hy => hs y (by simp [hy])) fun i cs hi => ?_)
    have := h (i + 1) cs (by simpa using hi)
    rwa [show off + (i + 1) * size = off + x.length + i * size by rw [hs x (by simp), Nat.add_mul]; omega] at this
theorem flatten_length {size : Nat} : ∀ {l : List (List Value)}, (∀ x ∈ l, x.length = size) → l.flatten.length = l.length * size
  | [], _ => by simp
  | x :: r, hs => by
    rw [List.flatten_cons, List.length_append, hs x (by simp), flatten_length (fun y hy => hs y (by simp [hy])), List.length_cons, Nat.add_mul]
    omega
theorem flatten_at {size : Nat} : ∀ {l : List (List Value)}, (∀ x ∈ l, x.length = size) → ∀ (i : Nat) cs, l[i]? = some cs → ∀ (j : Nat) u, cs[j]? = some u → l.flatten[i * size + j]? = some u
  | [], _, _, _, hi, _, _, _ => by simp at hi
  | x :: r, hs, 0, cs, hi, j, u, hu => by
    simp at hi; subst hi
    rw [List.flatten_cons, Nat.zero_mul, Nat.zero_add, List.getElem?_append, if_pos (by have := (List.getElem?_eq_some_iff.1 hu).1; omega)]
    exact hu
  | x :: r, hs, i + 1, cs, hi, j, u, hu => by
    rw [List.flatten_cons, List.getElem?_append, if_neg (by rw [hs x (by simp), Nat.add_mul]; omega), hs x (by simp)]
    rw [show (i + 1) * size + j - size = i * size + j by rw [Nat.add_mul]; omega]
    exact flatten_at (fun y hy => hs y (by simp [hy])) i cs (by simpa using hi) j u hu

/-- Each element is of 'size' cells, one value a cell. -/
def Fit (size : Nat) (l : List (List Value)) : Prop := ∀ x ∈ l, x.length = size ∧ ∀ u ∈ x, u.oneCell' = true
theorem Fit.len {size : Nat} {l : List (List Value)} (h : Fit size l) : ∀ x ∈ l, x.length = size := fun x hx => (h x hx).1
theorem Fit.one {size : Nat} {l : List (List Value)} (h : Fit size l) : ∀ u ∈ l.flatten, u.oneCell' = true := fun u hu => by
  obtain ⟨x, hx, hux⟩ := List.mem_flatten.1 hu
  exact (h x hx).2 u hux
theorem Fit.nil_ {size : Nat} : Fit size [] := fun x hx => by simp at hx
theorem Fit.app {size : Nat} {xs ys : List (List Value)} (h : Fit size xs) (k : Fit size ys) : Fit size (xs ++ ys) := fun x hx => by
  rcases List.mem_append.1 hx with e | e
  · exact h x e
  · exact k x e
theorem Fit.map {α : Type} {size : Nat} {f : α → List Value} (hf : ∀ a, (f a).length = size ∧ ∀ u ∈ f a, u.oneCell' = true) (l : List α) : Fit size (l.map f) := fun x hx => by
  obtain ⟨a, _, rfl⟩ := List.mem_map.1 hx
  exact hf a

/-- The slice value v owns the elements l in a block of the call's own, from block base on. -/
def Own (w : World) (base : Nat) (e : TypeId) (size : Nat) (v : Value) (l : List (List Value)) : Prop := w.ownsRow base e size v l.length l.flatten

theorem Own.nil_ (w : World) (base : Nat) (e : TypeId) (size : Nat) : Own w base e size (.slice none 0 0) [] := World.ownsRow_nil w base e size
theorem Own.lt {w : World} {base : Nat} {e : TypeId} {size : Nat} {v : Value} {l : List (List Value)} (h : Own w base e size v l) : ∀ k, v.ownBlock = some k → base ≤ k ∧ k < w.heap.size := World.ownsRow.lt h
theorem Own.keep {w w' : World} {base B : Nat} {e : TypeId} {size : Nat} {v : Value} {l : List (List Value)} (h : Own w base e size v l) (hb : Below B w w') (hB : w.heap.size ≤ B) : Own w' base e size v l := by
  refine ⟨h.1, ?_⟩
  rcases h.2 with h2 | ⟨g, cap, cur, hv, hg, hh, r⟩
  · exact .inl h2
  · exact .inr ⟨g, cap, cur, hv, hg, by rw [hb.block g (by have := (Array.getElem?_eq_some_iff.1 hh).1; omega)]; exact hh, r⟩
theorem Own.alloc {w : World} {base : Nat} {e : TypeId} {size : Nat} {v : Value} {l : List (List Value)} (h : Own w base e size v l) (o : Obj) : Own (w.alloc o) base e size v l := World.ownsRow.alloc h o
theorem Own.more {w : World} {base base' : Nat} {e : TypeId} {size : Nat} {v : Value} {l : List (List Value)} (h : Own w base e size v l) (hb : base' ≤ base) : Own w base' e size v l := by
  refine ⟨h.1, ?_⟩
  rcases h.2 with h2 | ⟨g, cap, cur, hv, hg, r⟩
  · exact .inl h2
  · exact .inr ⟨g, cap, cur, hv, by omega, r⟩
/-- What the call owns reads as a slice. -/
theorem Own.reads {w : World} {base : Nat} {e : TypeId} {size : Nat} {v : Value} {l : List (List Value)} (h : Own w base e size v l) (hf : ∀ x ∈ l, x.length = size) :
    ∃ A cap, v = .slice A l.length cap ∧ l.length ≤ cap ∧ cap ≤ maxLen ∧ SlAt w w.heap.size size A l ∧ (∀ b off, A = some ⟨b, off, none⟩ → base ≤ b ∧ b < w.heap.size ∧ off = 0 ∧ ∀ o, w.frozen? ⟨b, o, none⟩ = false) := by
  rcases h.2 with ⟨rfl, hn⟩ | ⟨g, cap, cur, rfl, hg, hh, hnc, hcm, hcs, htake⟩
  · refine ⟨none, 0, by rw [hn], by omega, by simp [maxLen], fun hl => by omega, fun b off h => by cases h⟩
  · refine ⟨some ⟨g, 0, none⟩, cap, rfl, hnc, hcm, fun _ => ⟨g, 0, rfl, (Array.getElem?_eq_some_iff.1 hh).1, fun i cs hi j u hu => ?_⟩, ?_⟩
    · have hu' := flatten_at hf i cs hi j u hu
      rw [Nat.zero_add, cell_of_row w g _ cur e (0, 0) hh]
      rw [← htake, List.getElem?_take] at hu'
      split at hu'
      · simpa using hu'
      · cases hu'
    · intro b off hb
      simp at hb
      obtain ⟨rfl, rfl⟩ := hb
      exact ⟨hg, (Array.getElem?_eq_some_iff.1 hh).1, rfl, fun o => by simp [World.frozen?, hh]⟩

theorem Own.slice {w : World} {base : Nat} {e : TypeId} {size n : Nat} {v : Value} {l : List (List Value)} (h : Own w base e size v l) (hf : ∀ x ∈ l, x.length = size) (hn : l.length = n) :
    ∃ A cap, v = .slice A n cap ∧ n ≤ cap ∧ cap ≤ maxLen ∧ SlAt w w.heap.size size A l ∧ (∀ b off, A = some ⟨b, off, none⟩ → base ≤ b ∧ b < w.heap.size ∧ off = 0 ∧ ∀ o, w.frozen? ⟨b, o, none⟩ = false) := by
  subst hn; exact h.reads hf

/-- The element type's row of the table. -/
def EI (P : Program) (t e : TypeId) (size bytes : Nat) : Prop :=
  P.underlying t = some (.slice e) ∧ (∃ i z, P.info? e = some i ∧ i.zero = some z ∧ i.size = size ∧ i.bytes = bytes ∧ z.cells.size = size) ∧ 0 < size ∧ 0 < bytes

theorem below_of_grown {w w' : World} {base : Nat} {e : TypeId} {size : Nat} {v : Value} {l : List (List Value)} (h : Own w base e size v l) (hg : w.grownBy w' v.ownBlock) (hb : base ≤ w.heap.size) : Below base w w' :=
  (Below.refl _ _).grown hg hb fun k hk => (h.lt k hk).1

section
variable {P : Program} {w : World}
theorem run_append_sl {t ty e : TypeId} {size bytes : Nat} (hei : EI P t e size bytes) {base : Nat} {v : Value} {xs : List (List Value)} (hown : Own w base e size v xs)
    {A : Option Addr} {c : Nat} {ys : List (List Value)} (hr : SlAt w w.heap.size size A ys) (hys : Fit size ys) (hlen : (xs.length + ys.length) * bytes ≤ 140737488355328) (hbase : base ≤ w.heap.size) :
    ∃ v' w', (Builtin.append_ #[t, t] ty #[v, .slice A ys.length c]).run P w = .ok v' w' ∧ Own w' base e size v' (xs ++ ys) ∧ w.grownBy w' v.ownBlock := by
  obtain ⟨ht, ⟨i, z, hi, hz, hsize, hby, hzs⟩, hsz, hbz⟩ := hei
  have hle : xs.length + ys.length ≤ 140737488355328 := Nat.le_trans (Nat.le_mul_of_pos_right _ hbz) hlen
  have hfl : ys.flatten.length = ys.length * size := flatten_length hys.len
  have key : ∀ ad : Addr, (∀ j u, ys.flatten[j]? = some u → w.cell? (ad.add j) = some u) → ∃ v' w', (Builtin.append_ #[t, t] ty #[v, .slice (some ad) ys.length c]).run P w = .ok v' w' ∧ Own w' base e size v' (xs ++ ys) ∧ w.grownBy w' v.ownBlock := by
    intro ad hc
    obtain ⟨v', w', hrun, h2, h3, _, _⟩ := run_append_own_at (P := P) w base t ty e i z size bytes ht hi hz hsize hby hzs hsz v xs.length xs.flatten hown ad ys.length c ys.flatten hfl hc hys.one (by simp only [maxLen]; omega) hlen hbase
    refine ⟨v', w', hrun, ?_, h3⟩
    unfold Own
    rw [List.length_append, List.flatten_append]
    exact h2
  by_cases hy : ys = []
  · subst hy
    cases A with
    | none =>
      refine ⟨v, w, ?_, by simpa using hown, World.grownBy.refl w _⟩
      rcases hown.2 with ⟨rfl, _⟩ | ⟨g, cap, cur, rfl, _, _, hnc, _⟩
      · simp [Builtin.append_, run_underlying ht, sizeOf, typeInfo, hi, Builtin.lenOf, Builtin.firstCells]
      · simp [Builtin.append_, run_underlying ht, sizeOf, typeInfo, hi, Builtin.lenOf, Builtin.firstCells, hnc, storeCells]
    | some ad => exact key ad fun j u hu => by simp at hu
  · obtain ⟨b, off, rfl, _, hc⟩ := hr (List.length_pos_iff.2 hy)
    have hat := At.flatten hys.len hc
    exact key _ fun j u hu => by rw [Addr.add_lit]; exact hat j u hu

theorem wp_append_sl {o : Oper} {a : Act} {K : Act → World → Prop} {Q : Exit → Act → World → Prop} (s x : Operand) (t : TypeId)
    (ho : o.op = .call { callee := .builtin .append, args := #[s, x], argTypes := #[t, t] }) {e : TypeId} {size bytes : Nat} (hei : EI P t e size bytes)
    {base : Nat} {v : Value} {xs : List (List Value)} (hs : a.eval s = v) (hown : Own w base e size v xs) (hxs : Fit size xs)
    {A : Option Addr} {c : Nat} {ys : List (List Value)} {n : Nat} (hx : a.eval x = .slice A n c) (hn : n = ys.length) (hr : SlAt w w.heap.size size A ys) (hys : Fit size ys)
    (hlen : (xs.length + ys.length) * bytes ≤ 140737488355328) (hbase : base ≤ w.heap.size)
    {N : Nat} (hN : xs.length + ys.length = N) (h : ∀ (A' : Option Addr) (cap' : Nat) w', N ≤ cap' → cap' ≤ maxLen → Own w' base e size (.slice A' N cap') (xs ++ ys) → w.grownBy w' v.ownBlock → Below base w w' → K (a.put o.dst (.slice A' N cap')) w') : o.wp P a w K Q := by
  subst hn
  obtain ⟨v', w', hrun, h2, h3⟩ := run_append_sl (P := P) (ty := o.type) hei hown hr (c := c) hys hlen hbase
  unfold Oper.wp execOp
  simp only [ho, resolve, invoke, builtin, Sem.run_bind, Sem.run_pure, Result.andThen_ok, List.map_toArray, List.map_cons, List.map_nil, hs, hx, hrun]
  obtain ⟨A', cap', hv, hc1, hc2, _⟩ := h2.slice (n := N) (hxs.app hys).len (by rw [List.length_append]; exact hN)
  subst hv
  exact h A' cap' w' hc1 hc2 h2 h3 (below_of_grown hown h3 hbase)

theorem wpList_append_sl {ops : Array Oper} {rest : List Oper} {o : Oper} {a : Act} {Q : Exit → Act → World → Prop} (hgd : o.guard = none) (s x : Operand) (t : TypeId)
    (ho : o.op = .call { callee := .builtin .append, args := #[s, x], argTypes := #[t, t] }) {e : TypeId} {size bytes : Nat} (hei : EI P t e size bytes)
    {base : Nat} {v : Value} {xs : List (List Value)} (hs : a.eval s = v) (hown : Own w base e size v xs) (hxs : Fit size xs)
    {A : Option Addr} {c : Nat} {ys : List (List Value)} {n : Nat} (hx : a.eval x = .slice A n c) (hn : n = ys.length) (hr : SlAt w w.heap.size size A ys) (hys : Fit size ys)
    (hlen : (xs.length + ys.length) * bytes ≤ 140737488355328) (hbase : base ≤ w.heap.size)
    {N : Nat} (hN : xs.length + ys.length = N) (h : ∀ (A' : Option Addr) (cap' : Nat) w', N ≤ cap' → cap' ≤ maxLen → Own w' base e size (.slice A' N cap') (xs ++ ys) → w.grownBy w' v.ownBlock → Below base w w' → wpList P ops Q rest (a.put o.dst (.slice A' N cap')) w') : wpList P ops Q (o :: rest) a w :=
  wpList_plain hgd fun _ hK => wp_append_sl s x t ho hei hs hown hxs hx hn hr hys hlen hbase hN fun A' cap' w' h2 h3 h4 h5 h6 => hK _ _ (h A' cap' w' h2 h3 h4 h5 h6)

theorem step_append_sl {ops : Array Oper} {o : Oper} {a : Act} {K : Act → World → Prop} {Q : Exit → Act → World → Prop} {E : Prop} (hgd : o.guard = none) (s x : Operand) (t : TypeId)
    (ho : o.op = .call { callee := .builtin .append, args := #[s, x], argTypes := #[t, t] }) {e : TypeId} {size bytes : Nat} (hei : EI P t e size bytes)
    {base : Nat} {v : Value} {xs : List (List Value)} (hs : a.eval s = v) (hown : Own w base e size v xs) (hxs : Fit size xs)
    {A : Option Addr} {c : Nat} {ys : List (List Value)} {n : Nat} (hx : a.eval x = .slice A n c) (hn : n = ys.length) (hr : SlAt w w.heap.size size A ys) (hys : Fit size ys)
    (hlen : (xs.length + ys.length) * bytes ≤ 140737488355328) (hbase : base ≤ w.heap.size)
    {N : Nat} (hN : xs.length + ys.length = N) (h : ∀ (A' : Option Addr) (cap' : Nat) w', N ≤ cap' → cap' ≤ maxLen → Own w' base e size (.slice A' N cap') (xs ++ ys) → w.grownBy w' v.ownBlock → Below base w w' → K (a.put o.dst (.slice A' N cap')) w') :
    if Region.wanted o (yielded ops a.tmps) = true then Oper.wp P o a w K Q else E := by
  have hw : Region.wanted o (yielded ops a.tmps) = true := by simp [Region.wanted, hgd]
  rw [if_pos hw]
  exact wp_append_sl s x t ho hei hs hown hxs hx hn hr hys hlen hbase hN h
end

/-- A row of its own block reads as a slice. -/
theorem SlAt.of_at {w : World} {b B size : Nat} {l : List (List Value)} (h : At w b 0 l.flatten) (hb : b < B) (hf : ∀ x ∈ l, x.length = size) : SlAt w B size (some ⟨b, 0, none⟩) l := fun _ =>
  ⟨b, 0, rfl, hb, fun i cs hi j u hu => by
    have := h (i * size + j) u (flatten_at hf i cs hi j u hu)
    rwa [← Nat.add_assoc] at this⟩
theorem SlAt.new {w : World} {size : Nat} {l : List (List Value)} {cs : List Value} {t : TypeId} (he : cs = l.flatten) (hf : ∀ x ∈ l, x.length = size) : SlAt (w.alloc (.cells cs.toArray t)) (w.alloc (.cells cs.toArray t)).heap.size size (some ⟨w.heap.size, 0, none⟩) l := by
  subst he
  exact SlAt.of_at (At.new w _ t) (by simp) hf

/-- One element in a new block. -/
theorem SlAt.one (w : World) (size : Nat) (cs : List Value) (t : TypeId) : SlAt (w.alloc (.cells cs.toArray t)) (w.alloc (.cells cs.toArray t)).heap.size size (some ⟨w.heap.size, 0, none⟩) [cs] := by
  intro _
  refine ⟨w.heap.size, 0, rfl, by simp, fun i x hi => ?_⟩
  cases i with
  | zero => simp at hi; subst hi; simpa using At.new w cs t
  | succ i => simp at hi

theorem Col.fit (c : Col) : c.cells.length = 3 ∧ ∀ u ∈ c.cells, u.oneCell' = true := by
  refine ⟨rfl, fun u hu => ?_⟩
  simp [Col.cells] at hu
  rcases hu with rfl | rfl | rfl <;> rfl
theorem cols_fit (l : List Col) : Fit 3 (l.map Col.cells) := Fit.map Col.fit l

end Go.Proofs.YtafgfehjdbomfaaDoor
