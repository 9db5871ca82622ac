/-
  Laws on slices that the call itself makes, over any program: append within the capacity and clear, in the row's own block.
-/
import Derived.Test.YtafgfehjdbomfaaDoorLaws
import Derived.StillTailTactics
namespace Go.Proofs.YtafgfehjdbomfaaDoor
open Go.RowKit

/-- Block g is a row of cells cur of element type e, none frozen. -/
def Blk (w : World) (g : Nat) (e : TypeId) (cur : List Value) : Prop := w.heap[g]? = some (.cells cur.toArray e (0, 0))

theorem Blk.lt {w : World} {g : Nat} {e : TypeId} {cur : List Value} (h : Blk w g e cur) : g < w.heap.size := (Array.getElem?_eq_some_iff.1 h).1
theorem Blk.at0 {w : World} {g : Nat} {e : TypeId} {cur : List Value} (h : Blk w g e cur) : At w g 0 cur := fun j u hu => by
  rw [Nat.zero_add, cell_of_row w g j cur.toArray e (0, 0) h]
  simpa using hu
theorem Blk.free {w : World} {g : Nat} {e : TypeId} {cur : List Value} (h : Blk w g e cur) (o : Nat) : w.frozen? ⟨g, o, none⟩ = false := by
  unfold Blk at h
  simp [World.frozen?, h]
theorem Blk.below {w w' : World} {g B : Nat} {e : TypeId} {cur : List Value} (h : Blk w g e cur) (hb : Below B w w') (hlt : g < B) : Blk w' g e cur := (hb.block g hlt).trans h
theorem Blk.new (w : World) (cur : List Value) (e : TypeId) : Blk (w.alloc (.cells cur.toArray e)) w.heap.size e cur := heap_alloc_new w _
theorem Blk.alloc {w : World} {g : Nat} {e : TypeId} {cur : List Value} (h : Blk w g e cur) (o : Obj) : Blk (w.alloc o) g e cur := (Below.heap_alloc w o g h.lt).trans h
theorem Blk.drew {w : World} {g : Nat} {e : TypeId} {cur : List Value} (h : Blk w g e cur) : Blk w.drew g e cur := h
theorem Blk.grown {w w' : World} {g : Nat} {row : Option Nat} {e : TypeId} {cur : List Value} (h : Blk w g e cur) (hg : w.grownBy w' row) (hne : some g ≠ row) : Blk w' g e cur := (hg.block g h.lt hne).trans h
theorem Blk.ne_ {w : World} {g g' : Nat} {t t' : TypeId} {cs cs' : List Value} (h : Blk w g t cs) (h' : Blk w g' t' cs') (hne : t ≠ t') : g ≠ g' := by
  rintro rfl
  unfold Blk at h h'
  rw [h] at h'
  injection h' with h'
  injection h' with _ ht
  exact hne ht

theorem Blk.set_ {w : World} {g : Nat} {t : TypeId} {cs : List Value} (h : Blk w g t cs) (i : Nat) (u : Value) : Blk (w.setCell ⟨g, i, none⟩ u) g t (cs.set i u) := by
  unfold Blk at h ⊢
  simp [World.setCell, Array.getElem?_modify, h]
theorem Blk.far {w : World} {g : Nat} {t : TypeId} {cs : List Value} (h : Blk w g t cs) {p : Addr} (hp : g ≠ p.block) (u : Value) : Blk (w.setCell p u) g t cs := (Below.heap_setCell w p u g hp).trans h
theorem Own.ne_ {w : World} {base : Nat} {e t : TypeId} {size p : Nat} {v : Value} {l : List (List Value)} {cs : List Value} (h : Own w base e size v l) (hp : Blk w p t cs) (hne : e ≠ t) : some p ≠ v.ownBlock := by
  rcases h.2 with ⟨rfl, _⟩ | ⟨g, cap, cur, rfl, _, hh, _⟩
  · simp [Value.ownBlock]
  · intro he
    have he' : p = g := by simpa [Value.ownBlock] using he
    subst he'
    unfold Blk at hp
    rw [hp] at hh
    injection hh with hh
    injection hh with _ ht
    exact hne ht.symm
theorem Own.set_other {w : World} {base : Nat} {e t : TypeId} {size p : Nat} {v : Value} {l : List (List Value)} {cs : List Value} (h : Own w base e size v l) (hp : Blk w p t cs) (hne : e ≠ t) (i : Nat) (u : Value) :
    Own (w.setCell ⟨p, i, none⟩ u) base e size v l := by
  have hx := h.ne_ hp hne
  refine ⟨h.1, ?_⟩
  rcases h.2 with h2 | ⟨g, cap, cur, hv, hg, hh, r⟩
  · exact .inl h2
  · refine .inr ⟨g, cap, cur, hv, hg, ?_, r⟩
    rw [Below.heap_setCell _ _ _ _ (by intro e; apply hx; rw [hv]; simp [Value.ownBlock]; exact e.symm)]
    exact hh
theorem Own.drew {w : World} {base : Nat} {e : TypeId} {size : Nat} {v : Value} {l : List (List Value)} (h : Own w base e size v l) : Own w.drew base e size v l := h
theorem Own.blk {w : World} {base : Nat} {e : TypeId} {size n cap : Nat} {A : Option Addr} {l : List (List Value)} (h : Own w base e size (.slice A n cap) l) (hn : 0 < l.length) :
    ∃ g cur, A = some ⟨g, 0, none⟩ ∧ l.length = n ∧ base ≤ g ∧ Blk w g e cur ∧ n ≤ cap ∧ cap ≤ maxLen ∧ cur.length = cap * size ∧ cur.take (n * size) = l.flatten := by
  rcases h.2 with ⟨h1, h2⟩ | ⟨g, cap', cur, hv, hg, hh, hnc, hcm, hcs, htake⟩
  · omega
  · injection hv with h1 h2 h3
    subst h1; subst h2; subst h3
    exact ⟨g, cur.toList, rfl, rfl, hg, by simpa [Blk] using hh, hnc, hcm, by simpa using hcs, htake⟩
theorem Own.of_blk {w : World} {base g : Nat} {e : TypeId} {size n cap : Nat} {cur : List Value} {l : List (List Value)} (hg : Blk w g e cur) (hb : base ≤ g) (hl : l.length = n) (hf : ∀ x ∈ l, x.length = size) (hnc : n ≤ cap) (hcm : cap ≤ maxLen)
    (hcs : cur.length = cap * size) (ht : cur.take (n * size) = l.flatten) : Own w base e size (.slice (some ⟨g, 0, none⟩) n cap) l := by
  subst hl
  exact ⟨flatten_length hf, .inr ⟨g, cap, cur.toArray, rfl, hb, hg, hnc, hcm, by simpa using hcs, by simpa using ht⟩⟩

theorem store3 {w : World} {r : Nat} {t : TypeId} {a b c : Value} (h : Blk w r t [a, b, c]) (v0 v1 v2 : Value) : At (((w.setCell ⟨r, 0, none⟩ v0).setCell ⟨r, 1, none⟩ v1).setCell ⟨r, 2, none⟩ v2) r 0 [v0, v1, v2] :=
  (((h.set_ 0 v0).set_ 1 v1).set_ 2 v2).at0
theorem below3 {w0 w : World} {B r : Nat} (hb : Below B w0 w) (hr : B ≤ r) (v0 v1 v2 : Value) : Below B w0 (((w.setCell ⟨r, 0, none⟩ v0).setCell ⟨r, 1, none⟩ v1).setCell ⟨r, 2, none⟩ v2) :=
  ((hb.setCell hr v0).setCell hr v1).setCell hr v2
theorem Own.store3 {w : World} {base r : Nat} {e t : TypeId} {size : Nat} {v : Value} {l : List (List Value)} {a b c : Value} (h : Own w base e size v l) (hp : Blk w r t [a, b, c]) (hne : e ≠ t) (v0 v1 v2 : Value) :
    Own (((w.setCell ⟨r, 0, none⟩ v0).setCell ⟨r, 1, none⟩ v1).setCell ⟨r, 2, none⟩ v2) base e size v l :=
  ((h.set_other hp hne 0 v0).set_other (hp.set_ 0 v0) hne 1 v1).set_other ((hp.set_ 0 v0).set_ 1 v1) hne 2 v2

/-- The blocks that a function's own variables lie in. -/
def Blks (w : World) : List (Nat × TypeId × List Value) → Prop
  | [] => True
  | x :: r => Blk w x.1 x.2.1 x.2.2 ∧ Blks w r
theorem Blks.nil_ (w : World) : Blks w [] := trivial
theorem Blks.after {w w' : World} (hb : Below w.heap.size w w') : ∀ {l : List (Nat × TypeId × List Value)}, Blks w l → Blks w' l
  | [], _ => trivial
  | _ :: _, h => ⟨h.1.below hb h.1.lt, Blks.after hb h.2⟩
theorem Blks.al {w : World} (o : Obj) : ∀ {l : List (Nat × TypeId × List Value)}, Blks w l → Blks (w.alloc o) l
  | [], _ => trivial
  | _ :: _, h => ⟨h.1.alloc o, Blks.al o h.2⟩
theorem Blks.push {w : World} {l : List (Nat × TypeId × List Value)} (h : Blks w l) (t : TypeId) (cs : List Value) : Blks (w.alloc (.cells cs.toArray t)) ((w.heap.size, t, cs) :: l) := ⟨Blk.new w cs t, h.al _⟩

/-- What a function does that works on the struct in block p whose slice is v. -/
structure Turned (w w' : World) (p : Nat) (v : Value) : Prop where
  os : w'.os = w.os
  tape : w'.tape = w.tape
  output : w'.output = w.output
  size : w.heap.size ≤ w'.heap.size
  block : ∀ k, k < w.heap.size → k ≠ p → some k ≠ v.ownBlock → w'.heap[k]? = w.heap[k]?
theorem Turned.below {w w' : World} {p B : Nat} {v : Value} (h : Turned w w' p v) (hp : B ≤ p) (hv : ∀ k, v.ownBlock = some k → B ≤ k) (hB : B ≤ w.heap.size) : Below B w w' :=
  ⟨h.os, h.tape, h.output, h.size, fun k hk => h.block k (by omega) (by omega) fun e => by have := hv k e.symm; omega⟩
theorem Turned.of_grown {w w' : World} {p : Nat} {v : Value} (h : w.grownBy w' v.ownBlock) : Turned w w' p v := ⟨h.os, h.tape, h.output, h.size, fun k hk _ hn => h.block k hk hn⟩
theorem Turned.set_ {w w' : World} {p : Nat} {v : Value} (h : Turned w w' p v) (i : Nat) (u : Value) : Turned w (w'.setCell ⟨p, i, none⟩ u) p v :=
  ⟨h.os, h.tape, h.output, by simpa [World.setCell] using h.size, fun k hk hp hn => (Below.heap_setCell w' _ u k hp).trans (h.block k hk hp hn)⟩
theorem Turned.of_alloc {w w' : World} {p : Nat} {v : Value} {o : Obj} (h : Turned (w.alloc o) w' p v) : Turned w w' p v :=
  ⟨h.os, h.tape, h.output, by have := h.size; simp at this; omega, fun k hk hp hn => (h.block k (by simp; omega) hp hn).trans (Below.heap_alloc w o k hk)⟩
theorem Turned.of_drew {w w' : World} {p : Nat} {v : Value} (h : Turned w.drew w' p v) : Turned w w' p v := ⟨h.os, h.tape, h.output, h.size, h.block⟩
theorem Turned.refl (w : World) (p : Nat) (v : Value) : Turned w w p v := ⟨rfl, rfl, rfl, Nat.le_refl _, fun _ _ _ _ => rfl⟩

section
variable {P : Program} {w : World}
theorem grown_setRow (w : World) (g : Nat) (cs : Array Value) : w.grownBy (w.setRow g cs) (some g) :=
  ⟨rfl, rfl, rfl, by simp, fun k _ hk => setRow_other w g k cs (fun e => hk (by rw [e]))⟩

theorem run_append_row {t ty e : TypeId} {size bytes : Nat} (hei : EI P t e size bytes) {g n cap : Nat} {cur : List Value} (hg : Blk w g e cur)
    {A : Option Addr} {c : Nat} {ys : List (List Value)} (hr : SlAt w w.heap.size size A ys) (hys : Fit size ys) (hroom : n + ys.length ≤ cap) (hcur : cur.length = cap * size) :
    ∃ w', (Builtin.append_ #[t, t] ty #[.slice (some ⟨g, 0, none⟩) n cap, .slice A ys.length c]).run P w = .ok (.slice (some ⟨g, 0, none⟩) (n + ys.length) cap) w' ∧
      Blk w' g e (cur.take (n * size) ++ ys.flatten ++ cur.drop (n * size + ys.flatten.length)) ∧ w.grownBy w' (some g) := by
  obtain ⟨ht, ⟨i, z, hi, hz, hsize, hby, hzs⟩, hsz, hbz⟩ := hei
  subst hsize
  have hfl : ys.flatten.length = ys.length * i.size := flatten_length hys.len
  have hfit : n * i.size + ys.flatten.length ≤ cur.toArray.size := by
    rw [hfl, List.size_toArray, hcur, ← Nat.add_mul]
    exact Nat.mul_le_mul_right _ hroom
  have key : ∀ ad : Addr, (∀ j u, ys.flatten[j]? = some u → w.cell? (ad.add j) = some u) → ∃ w', (Builtin.append_ #[t, t] ty #[.slice (some ⟨g, 0, none⟩) n cap, .slice (some ad) ys.length c]).run P w = .ok (.slice (some ⟨g, 0, none⟩) (n + ys.length) cap) w' ∧
      Blk w' g e (cur.take (n * i.size) ++ ys.flatten ++ cur.drop (n * i.size + ys.flatten.length)) ∧ w.grownBy w' (some g) := by
    intro ad hc
    have hr := run_append_room (P := P) w t ty e i ht hi g n cap cur.toArray hg ad ys.length c ys.flatten hfl hc hys.one hroom hfit
    exact ⟨_, hr, setRow_heap w g cur.toArray _ e _ hg, grown_setRow w g _⟩
  by_cases hy : ys = []
  · subst hy
    cases A with
    | none =>
      refine ⟨w, ?_, by simpa using hg, World.grownBy.refl w _⟩
      simp only [List.length_nil] at hroom
      have hroom' : n ≤ cap := by omega
      simp [Builtin.append_, run_underlying ht, sizeOf, typeInfo, hi, Builtin.lenOf, Builtin.firstCells, hroom', storeCells]
    | some ad => exact key ad fun j u hu => by simp at hu
  · obtain ⟨b, off, rfl, _, hc⟩ := hr (List.length_pos_iff.2 hy)
    have hat := At.flatten hys.len hc
    exact key _ fun j u hu => by rw [Addr.add_lit]; exact hat j u hu

theorem step_append_row {ops : Array Oper} {o : Oper} {a : Act} {K : Act → World → Prop} {Q : Exit → Act → World → Prop} {E : Prop} (hgd : o.guard = none) (s x : Operand) (t : TypeId)
    (ho : o.op = .call { callee := .builtin .append, args := #[s, x], argTypes := #[t, t] }) {e : TypeId} {size bytes : Nat} (hei : EI P t e size bytes)
    {g n cap : Nat} {cur : List Value} (hs : a.eval s = .slice (some ⟨g, 0, none⟩) n cap) (hg : Blk w g e cur)
    {A : Option Addr} {c : Nat} {ys : List (List Value)} {m : Nat} (hx : a.eval x = .slice A m c) (hm : m = ys.length) (hr : SlAt w w.heap.size size A ys) (hys : Fit size ys)
    (hroom : n + ys.length ≤ cap) (hcur : cur.length = cap * size)
    (h : ∀ w', Blk w' g e (cur.take (n * size) ++ ys.flatten ++ cur.drop (n * size + ys.flatten.length)) → w.grownBy w' (some g) → K (a.put o.dst (.slice (some ⟨g, 0, none⟩) (n + m) cap)) w') :
    if Region.wanted o (yielded ops a.tmps) = true then Oper.wp P o a w K Q else E := by
  subst hm
  have hw : Region.wanted o (yielded ops a.tmps) = true := by simp [Region.wanted, hgd]
  rw [if_pos hw]
  obtain ⟨w', hrun, h2, h3⟩ := run_append_row (P := P) (ty := o.type) hei (n := n) hg hr (c := c) hys hroom hcur
  unfold Oper.wp execOp
  simp only [ho, resolve, invoke, builtin, Sem.run_bind, Sem.run_pure, Result.andThen_ok, List.map_toArray, List.map_cons, List.map_nil, hs, hx, hrun]
  exact h w' h2 h3

theorem run_clear_row {t e ty : TypeId} {z : Value} {size : Nat} (ht : P.underlying t = some (.slice e)) (hv : ∀ w, (zeroValue e).run P w = .ok z w) (hz : z.cells.size = size) (h1 : ∀ u ∈ z.cells.toList, u.oneCell' = true)
    {g o c : Nat} {cur : List Value} (hg : Blk w g e cur) (hfit : o + size ≤ cur.length) :
    ∃ w', (Builtin.clear_ #[t] ty #[.slice (some ⟨g, o, none⟩) 1 c]).run P w = .ok (.tuple #[]) w' ∧ Blk w' g e (cur.take o ++ z.cells.toList ++ cur.drop (o + size)) ∧ w.grownBy w' (some g) := by
  subst hz
  have hzc : (Builtin.zeroCells z.cells 1).toList = z.cells.toList := by
    simp only [Builtin.zeroCells]
    apply List.ext_getElem
    · simp
    · intro i h1 h2
      have : i < z.cells.size := by simpa using h2
      simp [Nat.mod_eq_of_lt this, getElem!_pos z.cells i this]
  have hst := run_storeCells_at P g o e z.cells.toList 0 cur.toArray w hg (by simpa using hfit) h1
  simp only [Nat.add_zero] at hst
  refine ⟨_, ?_, setRow_heap w g cur.toArray _ e _ hg, grown_setRow w g _⟩
  · simp only [Array.length_toList] at hst
    simp [Builtin.clear_, run_underlying ht, hv, hzc, hst]
end
end Go.Proofs.YtafgfehjdbomfaaDoor
