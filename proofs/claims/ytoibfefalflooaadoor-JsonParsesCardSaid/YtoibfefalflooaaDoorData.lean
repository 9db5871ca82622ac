/-
  Plain data and plain facts: what a schema is as data, memory that reads as a list of structs, worlds. No function of the program stands here.
-/
import Derived.Test.YtoibfefalflooaaDoorProg
import Derived.WalkKit
import Derived.WalkSpells
import Derived.WalkLawsBesides
import Derived.BigQuiet
import Derived.Deep.QuietTactic
import Derived.Outline
import Derived.Lib.Hide
namespace Go.Proofs.YtoibfefalflooaaDoor
open Go.RowKit

theorem hide {p : Prop} (h : p) : Hid p := h

/-! ### Memory -/

/-- From offset off of block b on stand the values cs. -/
def At (w : World) (b off : Nat) (cs : List Value) : Prop := ∀ (j : Nat) u, cs[j]? = some u → w.cell? ⟨b, off + j, none⟩ = some u

theorem At.keep {w w' : World} {b off : Nat} {cs : List Value} (h : At w b off cs) (hk : ∀ o, w'.cell? ⟨b, o, none⟩ = w.cell? ⟨b, o, none⟩) : At w' b off cs :=
  fun j u hu => (hk _).trans (h j u hu)
theorem At.below {w w' : World} {b B off : Nat} {cs : List Value} (h : At w b off cs) (hb : Below B w w') (hlt : b < B) : At w' b off cs :=
  h.keep fun o => hb.cell (p := ⟨b, o, none⟩) hlt
theorem At.new (w : World) (cs : List Value) (t : TypeId) : At (w.alloc (.cells cs.toArray t)) w.heap.size 0 cs := fun j u hu => by
  rw [World.cell?_alloc_new]
  simpa using hu
theorem At.l1 {w : World} {b off : Nat} {x0 : Value} (h : At w b off [x0]) : w.cell? ⟨b, off, none⟩ = some x0 := (by simpa using h 0 x0 rfl)
theorem At.z1 {w : World} {b : Nat} {x0 : Value} (h : At w b 0 [x0]) : w.cell? ⟨b, 0, none⟩ = some x0 := (by simpa using h 0 x0 rfl)
theorem At.l2 {w : World} {b off : Nat} {x0 x1 : Value} (h : At w b off [x0, x1]) : w.cell? ⟨b, off, none⟩ = some x0 ∧ w.cell? ⟨b, off + 1, none⟩ = some x1 := ⟨(by simpa using h 0 x0 rfl), (by simpa using h 1 x1 rfl)⟩
theorem At.z2 {w : World} {b : Nat} {x0 x1 : Value} (h : At w b 0 [x0, x1]) : w.cell? ⟨b, 0, none⟩ = some x0 ∧ w.cell? ⟨b, 1, none⟩ = some x1 := ⟨(by simpa using h 0 x0 rfl), (by simpa using h 1 x1 rfl)⟩
theorem At.l3 {w : World} {b off : Nat} {x0 x1 x2 : Value} (h : At w b off [x0, x1, x2]) : w.cell? ⟨b, off, none⟩ = some x0 ∧ w.cell? ⟨b, off + 1, none⟩ = some x1 ∧ w.cell? ⟨b, off + 2, none⟩ = some x2 := ⟨(by simpa using h 0 x0 rfl), (by simpa using h 1 x1 rfl), (by simpa using h 2 x2 rfl)⟩
theorem At.z3 {w : World} {b : Nat} {x0 x1 x2 : Value} (h : At w b 0 [x0, x1, x2]) : w.cell? ⟨b, 0, none⟩ = some x0 ∧ w.cell? ⟨b, 1, none⟩ = some x1 ∧ w.cell? ⟨b, 2, none⟩ = some x2 := ⟨(by simpa using h 0 x0 rfl), (by simpa using h 1 x1 rfl), (by simpa using h 2 x2 rfl)⟩
theorem At.l4 {w : World} {b off : Nat} {x0 x1 x2 x3 : Value} (h : At w b off [x0, x1, x2, x3]) : w.cell? ⟨b, off, none⟩ = some x0 ∧ w.cell? ⟨b, off + 1, none⟩ = some x1 ∧ w.cell? ⟨b, off + 2, none⟩ = some x2 ∧ w.cell? ⟨b, off + 3, none⟩ = some x3 := ⟨(by simpa using h 0 x0 rfl), (by simpa using h 1 x1 rfl), (by simpa using h 2 x2 rfl), (by simpa using h 3 x3 rfl)⟩
theorem At.z4 {w : World} {b : Nat} {x0 x1 x2 x3 : Value} (h : At w b 0 [x0, x1, x2, x3]) : w.cell? ⟨b, 0, none⟩ = some x0 ∧ w.cell? ⟨b, 1, none⟩ = some x1 ∧ w.cell? ⟨b, 2, none⟩ = some x2 ∧ w.cell? ⟨b, 3, none⟩ = some x3 := ⟨(by simpa using h 0 x0 rfl), (by simpa using h 1 x1 rfl), (by simpa using h 2 x2 rfl), (by simpa using h 3 x3 rfl)⟩
theorem At.l5 {w : World} {b off : Nat} {x0 x1 x2 x3 x4 : Value} (h : At w b off [x0, x1, x2, x3, x4]) : w.cell? ⟨b, off, none⟩ = some x0 ∧ w.cell? ⟨b, off + 1, none⟩ = some x1 ∧ w.cell? ⟨b, off + 2, none⟩ = some x2 ∧ w.cell? ⟨b, off + 3, none⟩ = some x3 ∧ w.cell? ⟨b, off + 4, none⟩ = some x4 := ⟨(by simpa using h 0 x0 rfl), (by simpa using h 1 x1 rfl), (by simpa using h 2 x2 rfl), (by simpa using h 3 x3 rfl), (by simpa using h 4 x4 rfl)⟩
theorem At.z5 {w : World} {b : Nat} {x0 x1 x2 x3 x4 : Value} (h : At w b 0 [x0, x1, x2, x3, x4]) : w.cell? ⟨b, 0, none⟩ = some x0 ∧ w.cell? ⟨b, 1, none⟩ = some x1 ∧ w.cell? ⟨b, 2, none⟩ = some x2 ∧ w.cell? ⟨b, 3, none⟩ = some x3 ∧ w.cell? ⟨b, 4, none⟩ = some x4 := ⟨(by simpa using h 0 x0 rfl), (by simpa using h 1 x1 rfl), (by simpa using h 2 x2 rfl), (by simpa using h 3 x3 rfl), (by simpa using h 4 x4 rfl)⟩
theorem At.l6 {w : World} {b off : Nat} {x0 x1 x2 x3 x4 x5 : Value} (h : At w b off [x0, x1, x2, x3, x4, x5]) : w.cell? ⟨b, off, none⟩ = some x0 ∧ w.cell? ⟨b, off + 1, none⟩ = some x1 ∧ w.cell? ⟨b, off + 2, none⟩ = some x2 ∧ w.cell? ⟨b, off + 3, none⟩ = some x3 ∧ w.cell? ⟨b, off + 4, none⟩ = some x4 ∧ w.cell? ⟨b, off + 5, none⟩ = some x5 := ⟨(by simpa using h 0 x0 rfl), (by simpa using h 1 x1 rfl), (by simpa using h 2 x2 rfl), (by simpa using h 3 x3 rfl), (by simpa using h 4 x4 rfl), (by simpa using h 5 x5 rfl)⟩
theorem At.z6 {w : World} {b : Nat} {x0 x1 x2 x3 x4 x5 : Value} (h : At w b 0 [x0, x1, x2, x3, x4, x5]) : w.cell? ⟨b, 0, none⟩ = some x0 ∧ w.cell? ⟨b, 1, none⟩ = some x1 ∧ w.cell? ⟨b, 2, none⟩ = some x2 ∧ w.cell? ⟨b, 3, none⟩ = some x3 ∧ w.cell? ⟨b, 4, none⟩ = some x4 ∧ w.cell? ⟨b, 5, none⟩ = some x5 := ⟨(by simpa using h 0 x0 rfl), (by simpa using h 1 x1 rfl), (by simpa using h 2 x2 rfl), (by simpa using h 3 x3 rfl), (by simpa using h 4 x4 rfl), (by simpa using h 5 x5 rfl)⟩
theorem At.l7 {w : World} {b off : Nat} {x0 x1 x2 x3 x4 x5 x6 : Value} (h : At w b off [x0, x1, x2, x3, x4, x5, x6]) : w.cell? ⟨b, off, none⟩ = some x0 ∧ w.cell? ⟨b, off + 1, none⟩ = some x1 ∧ w.cell? ⟨b, off + 2, none⟩ = some x2 ∧ w.cell? ⟨b, off + 3, none⟩ = some x3 ∧ w.cell? ⟨b, off + 4, none⟩ = some x4 ∧ w.cell? ⟨b, off + 5, none⟩ = some x5 ∧ w.cell? ⟨b, off + 6, none⟩ = some x6 := ⟨(by simpa using h 0 x0 rfl), (by simpa using h 1 x1 rfl), (by simpa using h 2 x2 rfl), (by simpa using h 3 x3 rfl), (by simpa using h 4 x4 rfl), (by simpa using h 5 x5 rfl), (by simpa using h 6 x6 rfl)⟩
theorem At.z7 {w : World} {b : Nat} {x0 x1 x2 x3 x4 x5 x6 : Value} (h : At w b 0 [x0, x1, x2, x3, x4, x5, x6]) : w.cell? ⟨b, 0, none⟩ = some x0 ∧ w.cell? ⟨b, 1, none⟩ = some x1 ∧ w.cell? ⟨b, 2, none⟩ = some x2 ∧ w.cell? ⟨b, 3, none⟩ = some x3 ∧ w.cell? ⟨b, 4, none⟩ = some x4 ∧ w.cell? ⟨b, 5, none⟩ = some x5 ∧ w.cell? ⟨b, 6, none⟩ = some x6 := ⟨(by simpa using h 0 x0 rfl), (by simpa using h 1 x1 rfl), (by simpa using h 2 x2 rfl), (by simpa using h 3 x3 rfl), (by simpa using h 4 x4 rfl), (by simpa using h 5 x5 rfl), (by simpa using h 6 x6 rfl)⟩
theorem At.l8 {w : World} {b off : Nat} {x0 x1 x2 x3 x4 x5 x6 x7 : Value} (h : At w b off [x0, x1, x2, x3, x4, x5, x6, x7]) : w.cell? ⟨b, off, none⟩ = some x0 ∧ w.cell? ⟨b, off + 1, none⟩ = some x1 ∧ w.cell? ⟨b, off + 2, none⟩ = some x2 ∧ w.cell? ⟨b, off + 3, none⟩ = some x3 ∧ w.cell? ⟨b, off + 4, none⟩ = some x4 ∧ w.cell? ⟨b, off + 5, none⟩ = some x5 ∧ w.cell? ⟨b, off + 6, none⟩ = some x6 ∧ w.cell? ⟨b, off + 7, none⟩ = some x7 := ⟨(by simpa using h 0 x0 rfl), (by simpa using h 1 x1 rfl), (by simpa using h 2 x2 rfl), (by simpa using h 3 x3 rfl), (by simpa using h 4 x4 rfl), (by simpa using h 5 x5 rfl), (by simpa using h 6 x6 rfl), (by simpa using h 7 x7 rfl)⟩
theorem At.z8 {w : World} {b : Nat} {x0 x1 x2 x3 x4 x5 x6 x7 : Value} (h : At w b 0 [x0, x1, x2, x3, x4, x5, x6, x7]) : w.cell? ⟨b, 0, none⟩ = some x0 ∧ w.cell? ⟨b, 1, none⟩ = some x1 ∧ w.cell? ⟨b, 2, none⟩ = some x2 ∧ w.cell? ⟨b, 3, none⟩ = some x3 ∧ w.cell? ⟨b, 4, none⟩ = some x4 ∧ w.cell? ⟨b, 5, none⟩ = some x5 ∧ w.cell? ⟨b, 6, none⟩ = some x6 ∧ w.cell? ⟨b, 7, none⟩ = some x7 := ⟨(by simpa using h 0 x0 rfl), (by simpa using h 1 x1 rfl), (by simpa using h 2 x2 rfl), (by simpa using h 3 x3 rfl), (by simpa using h 4 x4 rfl), (by simpa using h 5 x5 rfl), (by simpa using h 6 x6 rfl), (by simpa using h 7 x7 rfl)⟩
theorem At.l9 {w : World} {b off : Nat} {x0 x1 x2 x3 x4 x5 x6 x7 x8 : Value} (h : At w b off [x0, x1, x2, x3, x4, x5, x6, x7, x8]) : w.cell? ⟨b, off, none⟩ = some x0 ∧ w.cell? ⟨b, off + 1, none⟩ = some x1 ∧ w.cell? ⟨b, off + 2, none⟩ = some x2 ∧ w.cell? ⟨b, off + 3, none⟩ = some x3 ∧ w.cell? ⟨b, off + 4, none⟩ = some x4 ∧ w.cell? ⟨b, off + 5, none⟩ = some x5 ∧ w.cell? ⟨b, off + 6, none⟩ = some x6 ∧ w.cell? ⟨b, off + 7, none⟩ = some x7 ∧ w.cell? ⟨b, off + 8, none⟩ = some x8 := ⟨(by simpa using h 0 x0 rfl), (by simpa using h 1 x1 rfl), (by simpa using h 2 x2 rfl), (by simpa using h 3 x3 rfl), (by simpa using h 4 x4 rfl), (by simpa using h 5 x5 rfl), (by simpa using h 6 x6 rfl), (by simpa using h 7 x7 rfl), (by simpa using h 8 x8 rfl)⟩
theorem At.z9 {w : World} {b : Nat} {x0 x1 x2 x3 x4 x5 x6 x7 x8 : Value} (h : At w b 0 [x0, x1, x2, x3, x4, x5, x6, x7, x8]) : w.cell? ⟨b, 0, none⟩ = some x0 ∧ w.cell? ⟨b, 1, none⟩ = some x1 ∧ w.cell? ⟨b, 2, none⟩ = some x2 ∧ w.cell? ⟨b, 3, none⟩ = some x3 ∧ w.cell? ⟨b, 4, none⟩ = some x4 ∧ w.cell? ⟨b, 5, none⟩ = some x5 ∧ w.cell? ⟨b, 6, none⟩ = some x6 ∧ w.cell? ⟨b, 7, none⟩ = some x7 ∧ w.cell? ⟨b, 8, none⟩ = some x8 := ⟨(by simpa using h 0 x0 rfl), (by simpa using h 1 x1 rfl), (by simpa using h 2 x2 rfl), (by simpa using h 3 x3 rfl), (by simpa using h 4 x4 rfl), (by simpa using h 5 x5 rfl), (by simpa using h 6 x6 rfl), (by simpa using h 7 x7 rfl), (by simpa using h 8 x8 rfl)⟩
theorem At.l10 {w : World} {b off : Nat} {x0 x1 x2 x3 x4 x5 x6 x7 x8 x9 : Value} (h : At w b off [x0, x1, x2, x3, x4, x5, x6, x7, x8, x9]) : w.cell? ⟨b, off, none⟩ = some x0 ∧ w.cell? ⟨b, off + 1, none⟩ = some x1 ∧ w.cell? ⟨b, off + 2, none⟩ = some x2 ∧ w.cell? ⟨b, off + 3, none⟩ = some x3 ∧ w.cell? ⟨b, off + 4, none⟩ = some x4 ∧ w.cell? ⟨b, off + 5, none⟩ = some x5 ∧ w.cell? ⟨b, off + 6, none⟩ = some x6 ∧ w.cell? ⟨b, off + 7, none⟩ = some x7 ∧ w.cell? ⟨b, off + 8, none⟩ = some x8 ∧ w.cell? ⟨b, off + 9, none⟩ = some x9 := ⟨(by simpa using h 0 x0 rfl), (by simpa using h 1 x1 rfl), (by simpa using h 2 x2 rfl), (by simpa using h 3 x3 rfl), (by simpa using h 4 x4 rfl), (by simpa using h 5 x5 rfl), (by simpa using h 6 x6 rfl), (by simpa using h 7 x7 rfl), (by simpa using h 8 x8 rfl), (by simpa using h 9 x9 rfl)⟩
theorem At.z10 {w : World} {b : Nat} {x0 x1 x2 x3 x4 x5 x6 x7 x8 x9 : Value} (h : At w b 0 [x0, x1, x2, x3, x4, x5, x6, x7, x8, x9]) : w.cell? ⟨b, 0, none⟩ = some x0 ∧ w.cell? ⟨b, 1, none⟩ = some x1 ∧ w.cell? ⟨b, 2, none⟩ = some x2 ∧ w.cell? ⟨b, 3, none⟩ = some x3 ∧ w.cell? ⟨b, 4, none⟩ = some x4 ∧ w.cell? ⟨b, 5, none⟩ = some x5 ∧ w.cell? ⟨b, 6, none⟩ = some x6 ∧ w.cell? ⟨b, 7, none⟩ = some x7 ∧ w.cell? ⟨b, 8, none⟩ = some x8 ∧ w.cell? ⟨b, 9, none⟩ = some x9 := ⟨(by simpa using h 0 x0 rfl), (by simpa using h 1 x1 rfl), (by simpa using h 2 x2 rfl), (by simpa using h 3 x3 rfl), (by simpa using h 4 x4 rfl), (by simpa using h 5 x5 rfl), (by simpa using h 6 x6 rfl), (by simpa using h 7 x7 rfl), (by simpa using h 8 x8 rfl), (by simpa using h 9 x9 rfl)⟩

/-- A slice's address A leads to elements of 'size' cells each, below block B: element i holds the i-th list. -/
def SlAt (w : World) (B size : Nat) (A : Option Addr) (l : List (List Value)) : Prop :=
  0 < l.length → ∃ b off, A = some ⟨b, off, none⟩ ∧ b < B ∧ ∀ (i : Nat) cs, l[i]? = some cs → At w b (off + i * size) cs

theorem SlAt.nil_ {w : World} {B size : Nat} {A : Option Addr} : SlAt w B size A [] := fun h => absurd h (by simp)
theorem SlAt.keep {w w' : World} {B size : Nat} {A : Option Addr} {l : List (List Value)} (h : SlAt w B size A l) (hb : Below B w w') : SlAt w' B size A l := by
  intro hl
  obtain ⟨b, off, e, hlt, hc⟩ := h hl
  exact ⟨b, off, e, hlt, fun i cs hi => (hc i cs hi).keep fun o => hb.cell (p := ⟨b, o, none⟩) hlt⟩
theorem SlAt.more {w : World} {B B' size : Nat} {A : Option Addr} {l : List (List Value)} (h : SlAt w B size A l) (hB : B ≤ B') : SlAt w B' size A l := by
  intro hl
  obtain ⟨b, off, e, hlt, hc⟩ := h hl
  exact ⟨b, off, e, by omega, hc⟩

theorem bcell {W w1 : World} {B : Nat} (hb : Below B W w1) :
    (∀ b o, b < B → w1.cell? ⟨b, o, none⟩ = W.cell? ⟨b, o, none⟩) ∧ (∀ b o, b < B → w1.frozen? ⟨b, o, none⟩ = W.frozen? ⟨b, o, none⟩) :=
  ⟨fun b o h => hb.cell (p := ⟨b, o, none⟩) h, fun b o h => hb.frozen (p := ⟨b, o, none⟩) h⟩

theorem hsz (w : World) (o : Obj) : (w.alloc o).heap.size = w.heap.size + 1 := by simp
theorem below_a1 (w : World) (o : Obj) : Below w.heap.size w (w.alloc o) := (Below.refl _ _).alloc (Nat.le_refl _) _

theorem SlAt.al {w : World} {size : Nat} {A : Option Addr} {l : List (List Value)} (h : SlAt w w.heap.size size A l) (o : Obj) : SlAt (w.alloc o) (w.alloc o).heap.size size A l :=
  (h.keep (below_a1 w o)).more (by rw [hsz]; omega)
theorem below_from1 {w w' : World} {o : Obj} (h : Below (w.alloc o).heap.size (w.alloc o) w') : Below w.heap.size w w' := (below_a1 w o).trans (h.mono (by rw [hsz]; omega))

theorem ret_int {k : IntKind} {a b : Int} (h : a = b) : Ending.returned (.int k a) = .returned (.int k b) := by rw [h]
theorem ret_bool {a b : Bool} (h : a = b) : Ending.returned (.bool a) = .returned (.bool b) := by rw [h]

/-! ### A schema's data -/

structure Col where
  id : Int
  name : ByteArray
  kind : Int

def Col.cells (c : Col) : List Value := [.int .i64 c.id, .string c.name, .int .i64 c.kind]
def Col.val (c : Col) : Value := .agg #[.int .i64 c.id, .string c.name, .int .i64 c.kind]

/-- The place of the first that p takes; -1: none. -/
def idx {α : Type} (p : α → Bool) (l : List α) : Int := if l.findIdx p < l.length then (l.findIdx p : Int) else -1

theorem fi_hit {α : Type} (p : α → Bool) : ∀ (l : List α) (k : Nat) (h : k < l.length), k ≤ l.findIdx p → p l[k] = true → l.findIdx p = k
  | [], _, h, _, _ => by simp at h
  | x :: r, k, h, hle, hp => by
    rw [List.findIdx_cons] at hle ⊢
    cases hx : p x with
    | true => simp [hx] at hle ⊢; omega
    | false =>
      simp [hx] at hle ⊢
      cases k with
      | zero => simp [hx] at hp
      | succ k => rw [fi_hit p r k (by simpa using h) (by omega) (by simpa using hp)]
theorem fi_miss {α : Type} (p : α → Bool) : ∀ (l : List α) (k : Nat) (h : k < l.length), k ≤ l.findIdx p → p l[k] = false → k + 1 ≤ l.findIdx p
  | [], _, h, _, _ => by simp at h
  | x :: r, k, h, hle, hp => by
    rw [List.findIdx_cons] at hle ⊢
    cases hx : p x with
    | true =>
      simp [hx] at hle
      subst hle
      simp [hx] at hp
    | false =>
      simp [hx] at hle ⊢
      cases k with
      | zero => omega
      | succ k => have := fi_miss p r k (by simpa using h) (by omega) (by simpa using hp); omega

/-- The bytes that a name may have. -/
def nameSet : List UInt8 := [97, 98, 99, 100, 101, 102, 103, 104, 105, 106, 107, 108, 109, 110, 111, 112, 113, 114, 115, 116, 117, 118, 119, 120, 121, 122, 48, 49, 50, 51, 52, 53, 54, 55, 56, 57, 95]
def nameB (s : ByteArray) : Bool := decide (1 ≤ s.size) && decide (s.size ≤ 16) && s.data.toList.all (nameSet.contains ·)

def kindB (k : Int) : Bool := decide (1 ≤ k ∧ k ≤ 3)

structure Sch where
  id : Int
  cols : List Col
  next : Int

def headOk (s : Sch) : Prop := 0 ≤ s.id ∧ s.id ≤ 2147483647 ∧ 1 ≤ s.cols.length ∧ s.cols.length ≤ 12 ∧ 1 ≤ s.next ∧ s.next ≤ 2147483647
instance (s : Sch) : Decidable (headOk s) := by unfold headOk; infer_instance
def colOk (next : Int) (c : Col) : Bool := decide (1 ≤ c.id) && decide (c.id < next) && nameB c.name && kindB c.kind
def clash (c o : Col) : Bool := o.id == c.id || o.name.toList == c.name.toList
def okAt (next : Int) (cols : List Col) (i : Nat) : Bool := match cols[i]? with
  | some c => colOk next c && !(cols.take i).any (clash c)
  | none => true
def okUpto (next : Int) (cols : List Col) : Nat → Bool
  | 0 => true
  | k + 1 => okUpto next cols k && okAt next cols k
def mayB (s : Sch) : Bool := decide (headOk s) && okUpto s.next s.cols s.cols.length

def Sch.zero : Sch := ⟨0, [], 0⟩
/-- What 'next' answers of a schema: it, or the error. -/
def nextR (s : Sch) : Sch × Int := if mayB s then (s, 0) else (Sch.zero, 1200)

def named (nm : ByteArray) (c : Col) : Bool := c.name.toList == nm.toList
def addR (s : Sch) (nm : ByteArray) (k : Int) : Sch × Int :=
  if mayB s = false then (Sch.zero, 1200) else if nameB nm = false then (Sch.zero, 1201) else if 0 ≤ idx (named nm) s.cols then (Sch.zero, 1201) else if kindB k = false then (Sch.zero, 1200)
  else if 12 ≤ s.cols.length then (Sch.zero, 1203) else nextR ⟨s.id + 1, s.cols ++ [⟨s.next, nm, k⟩], s.next + 1⟩
def dropR (s : Sch) (nm : ByteArray) : Sch × Int :=
  if mayB s = false then (Sch.zero, 1200) else if idx (named nm) s.cols < 0 then (Sch.zero, 1202) else if s.cols.length = 1 then (Sch.zero, 1203)
  else nextR ⟨s.id + 1, s.cols.eraseIdx (s.cols.findIdx (named nm)), s.next⟩
def setName (cols : List Col) (k : Nat) (to : ByteArray) : List Col := cols.modify k fun c => { c with name := to }
def renameR (s : Sch) (nm to : ByteArray) : Sch × Int :=
  if mayB s = false then (Sch.zero, 1200) else if idx (named nm) s.cols < 0 then (Sch.zero, 1202) else if nameB to = false then (Sch.zero, 1201)
  else if 0 ≤ idx (named to) s.cols ∧ idx (named to) s.cols ≠ idx (named nm) s.cols then (Sch.zero, 1201)
  else nextR ⟨s.id + 1, setName s.cols (s.cols.findIdx (named nm)) to, s.next⟩

theorem idx_yes {α : Type} {p : α → Bool} {l : List α} (h : 0 ≤ idx p l) : idx p l = (l.findIdx p : Int) ∧ l.findIdx p < l.length := by
  unfold idx at h ⊢
  split at h
  · rename_i hl; exact ⟨by rw [if_pos hl], hl⟩
  · omega
theorem idx_bd {α : Type} (p : α → Bool) (l : List α) : -1 ≤ idx p l ∧ idx p l < l.length := by
  unfold idx
  split <;> omega

def strCells (l : List ByteArray) : List (List Value) := l.map fun s => [.string s]
def intCells (l : List Int) : List (List Value) := l.map fun n => [.int .i64 n]
/-- The columns that New makes of names and kinds. -/
def newCols : List ByteArray → List Int → Nat → List Col
  | n :: ns, k :: ks, i => ⟨(i : Int) + 1, n, k⟩ :: newCols ns ks (i + 1)
  | _, _, _ => []
def newR (ns : List ByteArray) (ks : List Int) : Sch × Int :=
  if ns.length ≠ ks.length ∨ 12 < ns.length then (Sch.zero, 1200) else nextR ⟨0, newCols ns ks 0, ns.length + 1⟩
theorem newCols_length : ∀ (ns : List ByteArray) (ks : List Int) (i : Nat), ns.length = ks.length → (newCols ns ks i).length = ns.length
  | [], ks, i, _ => by simp [newCols]
  | n :: ns, [], i, h => by simp at h
  | n :: ns, k :: ks, i, h => by simp [newCols, newCols_length ns ks (i + 1) (by simpa using h)]
theorem newCols_get : ∀ (ns : List ByteArray) (ks : List Int) (i j : Nat) (n : ByteArray) (k : Int), ns[j]? = some n → ks[j]? = some k → (newCols ns ks i)[j]? = some ⟨((i + j : Nat) : Int) + 1, n, k⟩
  | [], ks, i, j, n, k, h, _ => by simp at h
  | n :: ns, [], i, j, n', k, _, h => by simp at h
  | n :: ns, k :: ks, i, 0, n', k', h, h' => by simp at h h'; subst h; subst h'; simp [newCols]
  | n :: ns, k :: ks, i, j + 1, n', k', h, h' => by
    have := newCols_get ns ks (i + 1) j n' k' (by simpa using h) (by simpa using h')
    simp only [newCols, List.getElem?_cons_succ, this]
    congr 3
    omega
theorem newCols_mem : ∀ (ns : List ByteArray) (ks : List Int) (i : Nat) (c : Col), c ∈ newCols ns ks i → c.name ∈ ns
  | [], ks, i, c, h => by simp [newCols] at h
  | n :: ns, [], i, c, h => by simp [newCols] at h
  | n :: ns, k :: ks, i, c, h => by
    simp only [newCols, List.mem_cons] at h
    rcases h with rfl | h
    · simp
    · exact List.mem_cons_of_mem _ (newCols_mem ns ks (i + 1) c h)

theorem okUpto_le {next : Int} {cols : List Col} {k : Nat} : ∀ {n : Nat}, k ≤ n → okUpto next cols n = true → okUpto next cols k = true
  | 0, h, _ => by obtain rfl : k = 0 := by omega
                  rfl
  | n + 1, h, hn => by
    by_cases e : k = n + 1
    · subst e; exact hn
    · simp only [okUpto, Bool.and_eq_true] at hn
      exact okUpto_le (by omega) hn.1
theorem okUpto_bad {next : Int} {cols : List Col} {k : Nat} (hk : k < cols.length) (h : okAt next cols k = false) : okUpto next cols cols.length = false := by
  cases e : okUpto next cols cols.length with
  | false => rfl
  | true =>
    have := okUpto_le (k := k + 1) (by omega) e
    simp [okUpto, h] at this

theorem okAt_of {next : Int} {cols : List Col} {k : Nat} {c : Col} (hc : cols[k]? = some c) (h : colOk next c = false) : okAt next cols k = false := by
  simp [okAt, hc, h]
theorem okAt_clash {next : Int} {cols : List Col} {k : Nat} {c : Col} (hc : cols[k]? = some c) (h : (cols.take k).any (clash c) = true) : okAt next cols k = false := by
  simp only [okAt, hc, h, Bool.not_true, Bool.and_false]
theorem okAt_yes {next : Int} {cols : List Col} {k : Nat} {c : Col} (hc : cols[k]? = some c) (h : colOk next c = true) (h2 : (cols.take k).any (clash c) = false) : okAt next cols k = true := by
  simp only [okAt, hc, h, h2, Bool.not_false, Bool.and_self]
theorem colOk_yes {next : Int} {c : Col} (h1 : 1 ≤ c.id) (h2 : c.id < next) (h3 : nameB c.name = true) (h4 : kindB c.kind = true) : colOk next c = true := by
  simp [colOk, h1, h2, h3, h4]
theorem colOk_inv {next : Int} {c : Col} (h : colOk next c = true) : 1 ≤ c.id ∧ c.id < next ∧ nameB c.name = true ∧ kindB c.kind = true := by
  simpa [colOk, and_assoc] using h
theorem clash_id {c d : Col} (h : d.id = c.id) : clash c d = true := by simp [clash, h]
theorem clash_or {c d : Col} (h : (d.id == c.id) = true ∨ (d.name.toList == c.name.toList) = true) : clash c d = true := by
  rcases h with h | h <;> simp only [clash, h, Bool.true_or, Bool.or_true]
theorem clash_no {c d : Col} (h : (d.id == c.id) = false ∧ (d.name.toList == c.name.toList) = false) : clash c d = false := by
  simp only [clash, h.1, h.2, Bool.or_self]
theorem any_take_succ {α : Type} (p : α → Bool) (l : List α) (j : Nat) (h : j < l.length) : (l.take (j + 1)).any p = ((l.take j).any p || p l[j]) := by
  rw [List.take_succ_eq_append_getElem h, List.any_append]
  simp
theorem any_take_yes {α : Type} (p : α → Bool) (l : List α) (j k : Nat) (hj : j < k) (h : j < l.length) (hp : p l[j] = true) : (l.take k).any p = true := by
  refine List.any_eq_true.2 ⟨l[j], ?_, hp⟩
  exact List.mem_take_iff_getElem.2 ⟨j, by omega, rfl⟩

end Go.Proofs.YtoibfefalflooaaDoor
