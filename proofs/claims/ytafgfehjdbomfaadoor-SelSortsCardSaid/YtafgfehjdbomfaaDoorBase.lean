/-
  Worlds that follow one another: what was there stays. Found by instances, so that no fact has to be carried by hand.
-/
import Derived.Test.YtafgfehjdbomfaaDoorGen
namespace Go.Proofs.YtafgfehjdbomfaaDoor
open Go.RowKit

/-- The world w' came right behind w: a call has returned, a loop has gone on. -/
class Step (w : outParam World) (w' : World) : Prop where
  below : Below w.heap.size w w'
/-- The world w' came some time behind w. -/
class Fut (w w' : World) : Prop where
  below : Below w.heap.size w w'
/-- Block b is not one of w's. -/
class Newer (w : World) (b : Nat) : Prop where
  le : w.heap.size ≤ b

instance Fut.self (w : World) : Fut w w := ⟨Below.refl _ _⟩
instance Fut.alloc_ {w W : World} [h : Fut w W] (o : Obj) : Fut w (W.alloc o) := ⟨h.below.alloc h.below.size o⟩
instance Fut.drew_ {w W : World} [h : Fut w W] : Fut w W.drew := ⟨h.below.drew⟩
instance Fut.drewN_ {w W : World} {n : Nat} [h : Fut w W] : Fut w (W.drewN n) := ⟨⟨h.below.os, h.below.tape, h.below.output, h.below.size, h.below.block⟩⟩
instance Fut.step_ {w W w' : World} [k : Step W w'] [h : Fut w W] : Fut w w' := ⟨h.below.trans (k.below.mono h.below.size)⟩
instance Newer.self (w : World) : Newer w w.heap.size := ⟨Nat.le_refl _⟩
instance Newer.fut {w W : World} [h : Fut w W] : Newer w W.heap.size := ⟨h.below.size⟩
instance Newer.add {w : World} {b k : Nat} [h : Newer w b] : Newer w (b + k) := ⟨Nat.le_trans h.le (Nat.le_add_right _ _)⟩
instance Fut.set_ {w W : World} {b o : Nat} {u : Value} [h : Fut w W] [k : Newer w b] : Fut w (W.setCell ⟨b, o, none⟩ u) := ⟨h.below.setCell (p := ⟨b, o, none⟩) k.le u⟩

theorem fut (w w' : World) [h : Fut w w'] : Below w.heap.size w w' := h.below
theorem Step.of {w w' : World} [h : Fut w w'] : Step w w' := ⟨h.below⟩
theorem Step.mk' {w w' : World} (h : Below w.heap.size w w') : Step w w' := ⟨h⟩
theorem Fut.mk' {w w' : World} (h : Below w.heap.size w w') : Fut w w' := ⟨h⟩
/-- What the walk reads in old blocks. -/
theorem Step.reads {w w' : World} (h : Step w w') : (∀ b o, b < w.heap.size → w'.cell? ⟨b, o, none⟩ = w.cell? ⟨b, o, none⟩) ∧ (∀ b o, b < w.heap.size → w'.frozen? ⟨b, o, none⟩ = w.frozen? ⟨b, o, none⟩) := bcell h.below
theorem Step.size {w w' : World} (h : Step w w') : w.heap.size ≤ w'.heap.size := h.below.size

theorem SlAt.fut {w w' : World} {size : Nat} {A : Option Addr} {l : List (List Value)} (h : SlAt w w.heap.size size A l) [k : Fut w w'] : SlAt w' w'.heap.size size A l := (h.keep k.below).more k.below.size
/-- Element k, in whatever later world. -/
theorem SlAt.elem {w w' : World} {size : Nat} {A : Option Addr} {l : List (List Value)} (h : SlAt w w.heap.size size A l) (hf : Fut w w') {k : Nat} (hk : k < l.length) :
    ∃ b off, A = some ⟨b, off, none⟩ ∧ b < w.heap.size ∧ ∀ (i : Nat) cs, l[i]? = some cs → At w' b (off + i * size) cs := by
  obtain ⟨b, off, e, hlt, hc⟩ := h (by omega)
  exact ⟨b, off, e, hlt, fun i cs hi => (hc i cs hi).below hf.below hlt⟩

/-- The first of what a slice leads to. -/
theorem SlAt.pre {w : World} {B size : Nat} {A : Option Addr} {l l' : List (List Value)} (h : SlAt w B size A (l ++ l')) : SlAt w B size A l := by
  intro hl
  obtain ⟨b, off, e, hlt, hc⟩ := h (by simp; omega)
  exact ⟨b, off, e, hlt, fun i cs hi => hc i cs (by rw [List.getElem?_append, if_pos (List.getElem?_eq_some_iff.1 hi).1]; exact hi)⟩

theorem flatten_set {size : Nat} : ∀ {l : List (List Value)}, (∀ x ∈ l, x.length = size) → ∀ (k j : Nat) (cs : List Value) (u : Value), l[k]? = some cs → j < size → l.flatten.set (k * size + j) u = (l.set k (cs.set j u)).flatten
  | [], _, k, _, cs, _, h, _ => by simp at h
  | x :: r, hs, 0, j, cs, u, h, hj => by
    have hx := hs x (by simp)
    simp at h
    subst h
    simp only [List.flatten_cons, Nat.zero_mul, Nat.zero_add, List.set_cons_zero]
    rw [List.set_append_left _ _ (by omega)]
  | x :: r, hs, k + 1, j, cs, u, h, hj => by
    have hx := hs x (by simp)
    have ih := flatten_set (l := r) (fun y hy => hs y (by simp [hy])) k j cs u (by simpa using h) hj
    simp only [List.flatten_cons, List.set_cons_succ]
    rw [List.set_append_right _ _ (by rw [hx, Nat.add_mul]; omega), show (k + 1) * size + j - x.length = k * size + j by rw [hx, Nat.add_mul]; omega, ih]

/-- A cell of what the call owns is written over. -/
theorem Own.put {w : World} {base : Nat} {e : TypeId} {size n cap : Nat} {A : Option Addr} {l : List (List Value)} (h : Own w base e size (.slice A n cap) l) (hf : ∀ x ∈ l, x.length = size) {k j : Nat} {cs : List Value} (hk : l[k]? = some cs) (hj : j < size) :
    ∃ g, A = some ⟨g, 0, none⟩ ∧ base ≤ g ∧ g < w.heap.size ∧ At w g (k * size) cs ∧ (∀ o, w.frozen? ⟨g, o, none⟩ = false) ∧ ∀ u, Own (w.setCell ⟨g, k * size + j, none⟩ u) base e size (.slice A n cap) (l.set k (cs.set j u)) := by
  have hlt := (List.getElem?_eq_some_iff.1 hk).1
  obtain ⟨g, cur, rfl, hn, hg, hb, hnc, hcm, hcs, htake⟩ := h.blk (by omega)
  refine ⟨g, rfl, hg, hb.lt, ?_, hb.free, fun u => ?_⟩
  · have h1 := At.of_flatten (off := 0) hf (l := l) (b := g) (w := w) (by
      rw [← htake]
      intro j' u' hu'
      rw [List.getElem?_take] at hu'
      split at hu'
      · exact hb.at0 j' u' hu'
      · cases hu') k cs hk
    simpa using h1
  · refine Own.of_blk (hb.set_ (k * size + j) u) hg (by simpa using hn) ?_ hnc hcm (by simpa using hcs) ?_
    · intro x hx
      rcases List.mem_or_eq_of_mem_set hx with hx | rfl
      · exact hf x hx
      · have := hf cs (List.mem_of_getElem? hk); simpa using this
    · rw [List.take_set, htake, flatten_set hf k j cs u hk hj]
theorem Own.fut {w w' : World} {base : Nat} {e : TypeId} {size : Nat} {v : Value} {l : List (List Value)} (h : Own w base e size v l) [k : Fut w w'] : Own w' base e size v l := h.keep k.below (Nat.le_refl _)
theorem Blk.fut {w w' : World} {g : Nat} {e : TypeId} {cur : List Value} (h : Blk w g e cur) [k : Fut w w'] : Blk w' g e cur := h.below k.below h.lt
/-- What the call owns, read. -/
theorem Own.sl {w : World} {base : Nat} {e : TypeId} {size n cap : Nat} {A : Option Addr} {l : List (List Value)} (h : Own w base e size (.slice A n cap) l) (hf : ∀ x ∈ l, x.length = size) : SlAt w w.heap.size size A l := by
  obtain ⟨A', cap', hv, _, _, hs, _⟩ := h.reads hf
  injection hv with h1 h2 h3
  subst h1
  exact hs
/-- What the address leads to lies in blocks from n on. -/
def Abv (n : Nat) (A : Option Addr) : Prop := ∀ b o, A = some ⟨b, o, none⟩ → n ≤ b
theorem Abv.mono {n m : Nat} {A : Option Addr} (h : Abv n A) (hm : m ≤ n) : Abv m A := fun b o e => Nat.le_trans hm (h b o e)
theorem Own.abv {w : World} {base : Nat} {e : TypeId} {size n cap : Nat} {A : Option Addr} {l : List (List Value)} (h : Own w base e size (.slice A n cap) l) : Abv base A := by
  rcases h.2 with ⟨h1, _⟩ | ⟨g, cap', cur, hv, hg, _⟩
  · injection h1 with h1
    subst h1
    intro b o e
    cases e
  · injection hv with h1
    subst h1
    intro b o e
    simp at e
    omega
/-- A store into an older block. -/
theorem SlAt.put {w : World} {size n : Nat} {A : Option Addr} {l : List (List Value)} (h : SlAt w w.heap.size size A l) (ha : Abv n A) {b o : Nat} (hb : b < n) (u : Value) : SlAt (w.setCell ⟨b, o, none⟩ u) (w.setCell ⟨b, o, none⟩ u).heap.size size A l := by
  intro hl
  obtain ⟨g, off, e, hlt, hc⟩ := h hl
  have hg := ha g off e
  have hz : (w.setCell ⟨b, o, none⟩ u).heap.size = w.heap.size := by simp [World.setCell]
  exact ⟨g, off, e, by rw [hz]; exact hlt, fun i cs hi => (hc i cs hi).keep fun o' => World.cell?_of_block (w := w) (Below.heap_setCell w _ u g (by simp; omega))⟩
theorem SlAt.one_at {w : World} {b : Nat} (hb : w.heap.size = b) (size : Nat) (cs : List Value) (t : TypeId) : SlAt (w.alloc (.cells cs.toArray t)) (w.alloc (.cells cs.toArray t)).heap.size size (some ⟨b, 0, none⟩) [cs] := by
  subst hb
  exact SlAt.one w size cs t
theorem SlAt.new_at {w : World} {b : Nat} (hb : w.heap.size = b) {size : Nat} {l : List (List Value)} {cs : List Value} {t : TypeId} (he : cs = l.flatten) (hf : ∀ x ∈ l, x.length = size) : SlAt (w.alloc (.cells cs.toArray t)) (w.alloc (.cells cs.toArray t)).heap.size size (some ⟨b, 0, none⟩) l := by
  subst hb
  exact SlAt.new he hf
theorem Blk.new_at {w : World} {b : Nat} (hb : w.heap.size = b) (cur : List Value) (e : TypeId) : Blk (w.alloc (.cells cur.toArray e)) b e cur := by
  subst hb
  exact Blk.new w cur e
/-- What s[k:] leads to. -/
theorem SlAt.tail {w : World} {B size b off cap : Nat} {l : List (List Value)} (h : SlAt w B size (some ⟨b, off, none⟩) l) (k : Nat) (hc : l.length ≤ cap) : SlAt w B size (if cap = k then some ⟨b, off, none⟩ else some ⟨b, off + k * size, none⟩) (l.drop k) := by
  intro hl
  have hk : k < l.length := by simp at hl; omega
  obtain ⟨b', off', e, hlt, hcs⟩ := h (by omega)
  obtain ⟨rfl, rfl⟩ : b = b' ∧ off = off' := by simpa using e
  rw [if_neg (by omega)]
  exact ⟨b, off + k * size, rfl, hlt, fun i cs hi => by
    have := hcs (k + i) cs (by simpa using hi)
    rwa [Nat.add_mul, ← Nat.add_assoc] at this⟩
theorem SlAt.take_ {w : World} {B size : Nat} {A : Option Addr} {l : List (List Value)} (h : SlAt w B size A l) (k : Nat) : SlAt w B size A (l.take k) := by
  rw [← List.take_append_drop k l] at h
  exact h.pre
theorem grown_setCell (w : World) (g i : Nat) (u : Value) : w.grownBy (w.setCell ⟨g, i, none⟩ u) (some g) :=
  ⟨rfl, rfl, rfl, by simp [World.setCell], fun k _ hk => Below.heap_setCell w _ u k (fun e => hk (by rw [e]))⟩
theorem Own.grown_other {w w' : World} {base : Nat} {e : TypeId} {size : Nat} {v : Value} {l : List (List Value)} {row : Option Nat} (h : Own w base e size v l) (hg : w.grownBy w' row) (hne : ∀ k, v.ownBlock = some k → row ≠ some k) : Own w' base e size v l := by
  refine ⟨h.1, ?_⟩
  rcases h.2 with h2 | ⟨g, cap, cur, hv, hgb, hh, r⟩
  · exact .inl h2
  · refine .inr ⟨g, cap, cur, hv, hgb, ?_, r⟩
    rw [hg.block g (Array.getElem?_eq_some_iff.1 hh).1 (fun e => hne g (by rw [hv]; rfl) e.symm)]
    exact hh
/-- New memory that holds a few texts or numbers. -/
theorem SlAt.strs1 {w : World} {b : Nat} (hb : w.heap.size = b) (x0 : ByteArray) : SlAt (w.alloc (.cells #[.string x0] 9)) (w.alloc (.cells #[.string x0] 9)).heap.size 1 (some ⟨b, 0, none⟩) (strCells [x0]) :=
  SlAt.new_at hb (l := strCells [x0]) (cs := [.string x0]) rfl (by intro y hy; simp [strCells] at hy; rw [hy]; rfl)
theorem SlAt.ints1 {w : World} {b : Nat} (hb : w.heap.size = b) (x0 : Int) : SlAt (w.alloc (.cells #[.int .i64 x0] 3)) (w.alloc (.cells #[.int .i64 x0] 3)).heap.size 1 (some ⟨b, 0, none⟩) (intCells [x0]) :=
  SlAt.new_at hb (l := intCells [x0]) (cs := [.int .i64 x0]) rfl (by intro y hy; simp [intCells] at hy; rw [hy]; rfl)
theorem SlAt.strs2 {w : World} {b : Nat} (hb : w.heap.size = b) (x0 x1 : ByteArray) : SlAt (w.alloc (.cells #[.string x0, .string x1] 9)) (w.alloc (.cells #[.string x0, .string x1] 9)).heap.size 1 (some ⟨b, 0, none⟩) (strCells [x0, x1]) :=
  SlAt.new_at hb (l := strCells [x0, x1]) (cs := [.string x0, .string x1]) rfl (by intro y hy; simp [strCells] at hy; rcases hy with rfl | rfl <;> rfl)
theorem SlAt.ints2 {w : World} {b : Nat} (hb : w.heap.size = b) (x0 x1 : Int) : SlAt (w.alloc (.cells #[.int .i64 x0, .int .i64 x1] 3)) (w.alloc (.cells #[.int .i64 x0, .int .i64 x1] 3)).heap.size 1 (some ⟨b, 0, none⟩) (intCells [x0, x1]) :=
  SlAt.new_at hb (l := intCells [x0, x1]) (cs := [.int .i64 x0, .int .i64 x1]) rfl (by intro y hy; simp [intCells] at hy; rcases hy with rfl | rfl <;> rfl)
theorem SlAt.strs3 {w : World} {b : Nat} (hb : w.heap.size = b) (x0 x1 x2 : ByteArray) : SlAt (w.alloc (.cells #[.string x0, .string x1, .string x2] 9)) (w.alloc (.cells #[.string x0, .string x1, .string x2] 9)).heap.size 1 (some ⟨b, 0, none⟩) (strCells [x0, x1, x2]) :=
  SlAt.new_at hb (l := strCells [x0, x1, x2]) (cs := [.string x0, .string x1, .string x2]) rfl (by intro y hy; simp [strCells] at hy; rcases hy with rfl | rfl | rfl <;> rfl)
theorem SlAt.ints3 {w : World} {b : Nat} (hb : w.heap.size = b) (x0 x1 x2 : Int) : SlAt (w.alloc (.cells #[.int .i64 x0, .int .i64 x1, .int .i64 x2] 3)) (w.alloc (.cells #[.int .i64 x0, .int .i64 x1, .int .i64 x2] 3)).heap.size 1 (some ⟨b, 0, none⟩) (intCells [x0, x1, x2]) :=
  SlAt.new_at hb (l := intCells [x0, x1, x2]) (cs := [.int .i64 x0, .int .i64 x1, .int .i64 x2]) rfl (by intro y hy; simp [intCells] at hy; rcases hy with rfl | rfl | rfl <;> rfl)
end Go.Proofs.YtafgfehjdbomfaaDoor
