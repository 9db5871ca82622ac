/-
  JSON values in memory: trees of slices.
-/
import Derived.Test.YtoibfefalflooaaDoorBl
import Derived.Test.YtoibfefalflooaaDoorJa
namespace Go.Proofs.YtoibfefalflooaaDoor
open Go.RowKit

/-- A JSON value with where its slices lie. -/
inductive T where
  | mk (k : Int) (b : Bool) (n : Int) (s : ByteArray) (A : Option Addr) (c : Nat) (l : List T) (AK : Option Addr) (cK : Nat) (ks : List ByteArray)
def T.cells : T → List Value
  | .mk k b n s A c l AK cK ks => [.int .i64 k, .bool b, .int .i64 n, .string s, .slice A l.length c, .slice AK ks.length cK]
mutual
def T.j : T → J
  | .mk k b n s _ _ l _ _ ks => .mk k b n s (T.js l) ks
def T.js : List T → List J
  | [] => []
  | t :: r => T.j t :: T.js r
end
theorem js_map : ∀ l : List T, T.js l = l.map T.j
  | [] => rfl
  | t :: r => by rw [T.js, js_map r]; rfl
theorem js_app (a b : List T) : T.js (a ++ b) = T.js a ++ T.js b := by rw [js_map, js_map, js_map, List.map_append]
def T.zero : T := .mk 0 false 0 ⟨#[]⟩ none 0 [] none 0 []
def ob (A : Option Addr) : Option Nat := A.map Addr.block
theorem ob_eq (A : Option Addr) (n c : Nat) : (Value.slice A n c).ownBlock = ob A := by cases A <;> rfl

mutual
/-- The tree's slices are blocks of their own, of numbers that may be. -/
def TAt (w : World) (ok : Nat → Prop) : T → Prop
  | .mk _ _ _ _ A c l AK cK ks => Own w 0 25 6 (.slice A l.length c) (l.map T.cells) ∧ Own w 0 9 1 (.slice AK ks.length cK) (strCells ks) ∧ (∀ k, ob A = some k → ok k) ∧ (∀ k, ob AK = some k → ok k) ∧ TAts w ok l
def TAts (w : World) (ok : Nat → Prop) : List T → Prop
  | [] => True
  | t :: r => TAt w ok t ∧ TAts w ok r
end
mutual
theorem TAt.weak {w : World} {ok ok' : Nat → Prop} (hk : ∀ k, ok k → ok' k) : ∀ {t : T}, TAt w ok t → TAt w ok' t
  | .mk _ _ _ _ A c l AK cK ks, h => by
    rw [TAt] at h ⊢
    exact ⟨h.1, h.2.1, fun k e => hk k (h.2.2.1 k e), fun k e => hk k (h.2.2.2.1 k e), TAts.weak hk h.2.2.2.2⟩
theorem TAts.weak {w : World} {ok ok' : Nat → Prop} (hk : ∀ k, ok k → ok' k) : ∀ {l : List T}, TAts w ok l → TAts w ok' l
  | [], _ => by rw [TAts]; trivial
  | t :: r, h => by rw [TAts] at h ⊢; exact ⟨TAt.weak hk h.1, TAts.weak hk h.2⟩
end
mutual
theorem TAt.grown {w w' : World} {ok : Nat → Prop} {row : Option Nat} (hg : w.grownBy w' row) (hk : ∀ k, ok k → row ≠ some k) : ∀ {t : T}, TAt w ok t → TAt w' ok t
  | .mk _ _ _ _ A c l AK cK ks, h => by
    rw [TAt] at h ⊢
    exact ⟨h.1.grown_other hg (fun k e => hk k (h.2.2.1 k (by rw [← ob_eq A]; exact e))), h.2.1.grown_other hg (fun k e => hk k (h.2.2.2.1 k (by rw [← ob_eq AK]; exact e))), h.2.2.1, h.2.2.2.1, TAts.grown hg hk h.2.2.2.2⟩
theorem TAts.grown {w w' : World} {ok : Nat → Prop} {row : Option Nat} (hg : w.grownBy w' row) (hk : ∀ k, ok k → row ≠ some k) : ∀ {l : List T}, TAts w ok l → TAts w' ok l
  | [], _ => by rw [TAts]; trivial
  | t :: r, h => by rw [TAts] at h ⊢; exact ⟨TAt.grown hg hk h.1, TAts.grown hg hk h.2⟩
end
mutual
theorem TAt.lt {w : World} {ok : Nat → Prop} : ∀ {t : T}, TAt w ok t → TAt w (fun k => ok k ∧ k < w.heap.size) t
  | .mk _ _ _ _ A c l AK cK ks, h => by
    rw [TAt] at h ⊢
    exact ⟨h.1, h.2.1, fun k e => ⟨h.2.2.1 k e, (h.1.lt k (by rw [ob_eq]; exact e)).2⟩, fun k e => ⟨h.2.2.2.1 k e, (h.2.1.lt k (by rw [ob_eq]; exact e)).2⟩, TAts.lt h.2.2.2.2⟩
theorem TAts.lt {w : World} {ok : Nat → Prop} : ∀ {l : List T}, TAts w ok l → TAts w (fun k => ok k ∧ k < w.heap.size) l
  | [], _ => by rw [TAts]; trivial
  | t :: r, h => by rw [TAts] at h ⊢; exact ⟨TAt.lt h.1, TAts.lt h.2⟩
end
theorem TAts.app {w : World} {ok : Nat → Prop} : ∀ {l : List T} {t : T}, TAts w ok l → TAt w ok t → TAts w ok (l ++ [t])
  | [], t, _, h => by rw [List.nil_append, TAts]; exact ⟨h, by rw [TAts]; trivial⟩
  | x :: r, t, h, k => by rw [TAts] at h; rw [List.cons_append, TAts]; exact ⟨h.1, TAts.app h.2 k⟩
theorem TAt.zero (w : World) (ok : Nat → Prop) : TAt w ok T.zero := by
  unfold T.zero
  rw [TAt]
  exact ⟨Own.nil_ _ _ _ _, Own.nil_ _ _ _ _, fun k e => (by cases e), fun k e => (by cases e), (by rw [TAts]; trivial)⟩
theorem TAt.leaf (w : World) (ok : Nat → Prop) (k : Int) (b : Bool) (n : Int) (s : ByteArray) : TAt w ok (.mk k b n s none 0 [] none 0 []) := by
  rw [TAt]
  exact ⟨Own.nil_ _ _ _ _, Own.nil_ _ _ _ _, fun k e => (by cases e), fun k e => (by cases e), (by rw [TAts]; trivial)⟩
theorem grown_trans {a b c : World} {row : Option Nat} (h : a.grownBy b row) (k : b.grownBy c row) : a.grownBy c row :=
  ⟨k.os.trans h.os, k.tape.trans h.tape, k.output.trans h.output, Nat.le_trans h.size k.size, fun i hi hne => (k.block i (Nat.lt_of_lt_of_le hi h.size) hne).trans (h.block i hi hne)⟩
/-- Only the parser's block may have turned. -/
abbrev Mv (g : Nat) (w w' : World) : Prop := w.grownBy w' (some g)
theorem Mv.of_step {g : Nat} {w w' : World} (h : Step w w') : Mv g w w' := ⟨h.below.os, h.below.tape, h.below.output, h.below.size, fun k hk _ => h.below.block k hk⟩
theorem Mv.put {g i : Nat} {w w' : World} (h : Mv g w w') (u : Value) : Mv g w (w'.setCell ⟨g, i, none⟩ u) := grown_trans h (grown_setCell w' g i u)
end Go.Proofs.YtoibfefalflooaaDoor
