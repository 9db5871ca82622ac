/-
  Lists and objects: what holds in the loop.
-/
import Derived.Test.YtoibfefalflooaaDoorJl
namespace Go.Proofs.YtoibfefalflooaaDoor
open Go.RowKit

theorem own_blk {w : World} {base : Nat} {e : TypeId} {size : Nat} {v : Value} {l : List (List Value)} (h : Own w base e size v l) {q : Nat} (hq : v.ownBlock = some q) : ∃ cs, Blk w q e cs := by
  rcases h.2 with ⟨rfl, _⟩ | ⟨g, cap, cur, rfl, _, hh, _⟩
  · cases hq
  · simp [Value.ownBlock] at hq
    subst hq
    exact ⟨cur.toList, hh⟩
theorem own_apart {w : World} {b1 b2 : Nat} {e1 e2 : TypeId} {s1 s2 : Nat} {v1 v2 : Value} {l1 l2 : List (List Value)} (h1 : Own w b1 e1 s1 v1 l1) (h2 : Own w b2 e2 s2 v2 l2) (hne : e1 ≠ e2) : ∀ q, v1.ownBlock = some q → v2.ownBlock ≠ some q := fun q e1 e2 => by
  obtain ⟨cs, hc⟩ := own_blk h2 e2
  exact h1.ne_ hc hne e1.symm

/-- What holds in inner's loop. -/
def InnAt (g : Nat) (s : ByteArray) (bb : Nat) (K : Int) (w wr : World) (k : Nat) (l : List T) (ks : List ByteArray) (A : Option Addr) (c nl : Nat) (AK : Option Addr) (cK nk n : Nat) (sk : List ByteArray) : Prop :=
  Blk wr (bb + 1) 25 [.int .i64 K, .bool false, .int .i64 0, .string ⟨#[]⟩, .slice A nl c, .slice AK nk cK] ∧
  Own wr (bb + 3) 25 6 (.slice A nl c) (l.map T.cells) ∧
  Own wr (bb + 3) 9 1 (.slice AK nk cK) (strCells ks) ∧
  TAts wr (fun q => bb + 3 ≤ q ∧ ob A ≠ some q ∧ ob AK ≠ some q) l ∧
  Blk wr bb 25 zeroC ∧ Seen wr (bb + 2) n sk ∧ Pr wr g s k ∧ Mv g w wr ∧ bb + 3 ≤ wr.heap.size ∧ g < bb ∧ w.heap.size = bb
section
variable {g : Nat} {s : ByteArray} {bb : Nat} {K : Int} {w w1 w2 : World} {k : Nat} {l : List T} {ks : List ByteArray} {A : Option Addr} {c nl : Nat} {AK : Option Addr} {cK nk n : Nat} {sk : List ByteArray}
theorem InnAt.mv (h : InnAt g s bb K w w1 k l ks A c nl AK cK nk n sk) (hm : Mv g w1 w2) {k2 : Nat} (hp : Pr w2 g s k2) : InnAt g s bb K w w2 k2 l ks A c nl AK cK nk n sk := by
  obtain ⟨h1, h2, h3, h4, h5, h6, h7, h8, h9, h10, h11⟩ := h
  refine ⟨h1.grown hm (by intro e; injection e with e; omega), h2.grown_other hm (fun q e e2 => ?_), h3.grown_other hm (fun q e e2 => ?_), TAts.grown hm (fun q e e2 => ?_) h4, h5.grown hm (by intro e; injection e with e; omega), h6.kept hm (by intro e; injection e with e; omega), hp, grown_trans h8 hm, Nat.le_trans h9 hm.size, h10, h11⟩
  · have := (h2.lt q e).1; injection e2 with e2; omega
  · have := (h3.lt q e).1; injection e2 with e2; omega
  · have := e.1; injection e2 with e2; omega
theorem InnAt.step (h : InnAt g s bb K w w1 k l ks A c nl AK cK nk n sk) [hs : Fut w1 w2] : InnAt g s bb K w w2 k l ks A c nl AK cK nk n sk :=
  h.mv (Mv.of_step ⟨hs.below⟩) (h.2.2.2.2.2.2.1.fut)
/-- A value more. -/
theorem InnAt.addL (h : InnAt g s bb K w w1 k l ks A c nl AK cK nk n sk) {t : T} {A2 : Option Addr} {c2 : Nat} (ht : TAt w1 (fun q => bb + 3 ≤ q ∧ ob A ≠ some q ∧ ob AK ≠ some q) t)
    (hg : w1.grownBy w2 (Value.slice A nl c).ownBlock) (ho : Own w2 (bb + 3) 25 6 (.slice A2 (nl + 1) c2) (l.map T.cells ++ [t.cells])) (hA : ob A2 = (Value.slice A nl c).ownBlock ∨ ob A2 = some w1.heap.size) :
    InnAt g s bb K w (w2.setCell ⟨bb + 1, 4, none⟩ (.slice A2 (nl + 1) c2)) k (l ++ [t]) ks A2 c2 (nl + 1) AK cK nk n sk := by
  obtain ⟨h1, h2, h3, h4, h5, h6, h7, h8, h9, h10, h11⟩ := h
  have hbase : ∀ q, (Value.slice A nl c).ownBlock = some q → bb + 3 ≤ q := fun q e => (h2.lt q e).1
  have hlow : ∀ q, q < bb + 3 → some q ≠ (Value.slice A nl c).ownBlock := fun q hq e => by have := hbase q e.symm; omega
  have hset := grown_setCell w2 (bb + 1) 4 (.slice A2 (nl + 1) c2)
  have hb2 : w1.heap.size ≤ w2.heap.size := hg.size
  have hok : ∀ q, (bb + 3 ≤ q ∧ ob A ≠ some q ∧ ob AK ≠ some q) ∧ q < w1.heap.size → bb + 3 ≤ q ∧ ob A2 ≠ some q ∧ ob AK ≠ some q := fun q hq => ⟨hq.1.1, fun e => by
    rcases hA with e1 | e1
    · rw [e1, ob_eq] at e; exact hq.1.2.1 e
    · rw [e1] at e; injection e with e; omega, hq.1.2.2⟩
  have hrow : ∀ q, (bb + 3 ≤ q ∧ ob A ≠ some q ∧ ob AK ≠ some q) ∧ q < w1.heap.size → (Value.slice A nl c).ownBlock ≠ some q := fun q hq e => hq.1.2.1 (by rw [← ob_eq A nl c]; exact e)
  have hrow2 : ∀ q, bb + 3 ≤ q ∧ ob A2 ≠ some q ∧ ob AK ≠ some q → some (bb + 1) ≠ some q := fun q hq e => by have := hq.1; injection e with e; omega
  have hl4 := TAts.grown hset hrow2 (TAts.weak hok (TAts.grown hg hrow (TAts.lt h4)))
  have ht4 := TAt.grown hset hrow2 (TAt.weak hok (TAt.grown hg hrow (TAt.lt ht)))
  refine ⟨(h1.grown hg (hlow _ (by omega))).set_ 4 _, ?_, ?_, hl4.app ht4, ?_, ?_, ?_, ?_, ?_, h10, h11⟩
  · rw [List.map_append]
    exact ho.grown_other hset (fun q e e2 => by have := (ho.lt q e).1; injection e2 with e2; omega)
  · exact (h3.grown_other hg (own_apart h3 h2 (by decide))).grown_other hset (fun q e e2 => by have := (h3.lt q e).1; injection e2 with e2; omega)
  · exact (h5.grown hg (hlow _ (by omega))).grown hset (by intro e; injection e with e; omega)
  · exact (h6.kept hg (hlow _ (by omega))).kept hset (by intro e; injection e with e; omega)
  · exact (Blk.grown h7 hg (hlow _ (by omega))).grown hset (by intro e; injection e with e; omega)
  · exact (Mv.down h8 ((below_of_grown h2 hg h9).mono (by omega))).down (by rw [h11]; exact (Below.refl _ _).setCell (p := ⟨bb + 1, 4, none⟩) (by simp) _)
  · exact Nat.le_trans (Nat.le_trans h9 hb2) hset.size
/-- A key is seen. -/
theorem InnAt.see (h : InnAt g s bb K w w1 k l ks A c nl AK cK nk n sk) {n2 : Nat} {sk2 : List ByteArray} (hg : w1.grownBy w2 (some (bb + 2))) (hs : Seen w2 (bb + 2) n2 sk2) : InnAt g s bb K w w2 k l ks A c nl AK cK nk n2 sk2 := by
  obtain ⟨h1, h2, h3, h4, h5, h6, h7, h8, h9, h10, h11⟩ := h
  refine ⟨h1.grown hg (by intro e; injection e with e; omega), h2.grown_other hg (fun q e e2 => ?_), h3.grown_other hg (fun q e e2 => ?_), TAts.grown hg (fun q e e2 => ?_) h4, h5.grown hg (by intro e; injection e with e; omega), hs, Blk.grown h7 hg (by intro e; injection e with e; omega), h8.down ⟨hg.os, hg.tape, hg.output, hg.size, fun q hq => hg.block q (by have := h8.size; omega) (by intro e; injection e with e; omega)⟩, Nat.le_trans h9 hg.size, h10, h11⟩
  · have := (h2.lt q e).1; injection e2 with e2; omega
  · have := (h3.lt q e).1; injection e2 with e2; omega
  · have := e.1; injection e2 with e2; omega
/-- A key more. -/
theorem InnAt.addK (h : InnAt g s bb K w w1 k l ks A c nl AK cK nk n sk) {t : ByteArray} {A2 : Option Addr} {c2 : Nat}
    (hg : w1.grownBy w2 (Value.slice AK nk cK).ownBlock) (ho : Own w2 (bb + 3) 9 1 (.slice A2 (nk + 1) c2) (strCells ks ++ [[.string t]])) (hA : ob A2 = (Value.slice AK nk cK).ownBlock ∨ ob A2 = some w1.heap.size) :
    InnAt g s bb K w (w2.setCell ⟨bb + 1, 5, none⟩ (.slice A2 (nk + 1) c2)) k l (ks ++ [t]) A c nl A2 c2 (nk + 1) n sk := by
  obtain ⟨h1, h2, h3, h4, h5, h6, h7, h8, h9, h10, h11⟩ := h
  have hbase : ∀ q, (Value.slice AK nk cK).ownBlock = some q → bb + 3 ≤ q := fun q e => (h3.lt q e).1
  have hlow : ∀ q, q < bb + 3 → some q ≠ (Value.slice AK nk cK).ownBlock := fun q hq e => by have := hbase q e.symm; omega
  have hset := grown_setCell w2 (bb + 1) 5 (.slice A2 (nk + 1) c2)
  have hb2 : w1.heap.size ≤ w2.heap.size := hg.size
  have hok : ∀ q, (bb + 3 ≤ q ∧ ob A ≠ some q ∧ ob AK ≠ some q) ∧ q < w1.heap.size → bb + 3 ≤ q ∧ ob A ≠ some q ∧ ob A2 ≠ some q := fun q hq => ⟨hq.1.1, hq.1.2.1, fun e => by
    rcases hA with e1 | e1
    · rw [e1, ob_eq] at e; exact hq.1.2.2 e
    · rw [e1] at e; injection e with e; omega⟩
  have hrow : ∀ q, (bb + 3 ≤ q ∧ ob A ≠ some q ∧ ob AK ≠ some q) ∧ q < w1.heap.size → (Value.slice AK nk cK).ownBlock ≠ some q := fun q hq e => hq.1.2.2 (by rw [← ob_eq AK nk cK]; exact e)
  have hrow2 : ∀ q, bb + 3 ≤ q ∧ ob A ≠ some q ∧ ob A2 ≠ some q → some (bb + 1) ≠ some q := fun q hq e => by have := hq.1; injection e with e; omega
  have hl4 := TAts.grown hset hrow2 (TAts.weak hok (TAts.grown hg hrow (TAts.lt h4)))
  refine ⟨(h1.grown hg (hlow _ (by omega))).set_ 5 _, ?_, ?_, hl4, ?_, ?_, ?_, ?_, ?_, h10, h11⟩
  · exact (h2.grown_other hg (own_apart h2 h3 (by decide))).grown_other hset (fun q e e2 => by have := (h2.lt q e).1; injection e2 with e2; omega)
  · unfold strCells at ho ⊢
    rw [List.map_append]
    exact ho.grown_other hset (fun q e e2 => by have := (ho.lt q e).1; injection e2 with e2; omega)
  · exact (h5.grown hg (hlow _ (by omega))).grown hset (by intro e; injection e with e; omega)
  · exact (h6.kept hg (hlow _ (by omega))).kept hset (by intro e; injection e with e; omega)
  · exact (Blk.grown h7 hg (hlow _ (by omega))).grown hset (by intro e; injection e with e; omega)
  · exact (Mv.down h8 ((below_of_grown h3 hg h9).mono (by omega))).down (by rw [h11]; exact (Below.refl _ _).setCell (p := ⟨bb + 1, 5, none⟩) (by simp) _)
  · exact Nat.le_trans (Nat.le_trans h9 hb2) hset.size
end
end Go.Proofs.YtoibfefalflooaaDoor
