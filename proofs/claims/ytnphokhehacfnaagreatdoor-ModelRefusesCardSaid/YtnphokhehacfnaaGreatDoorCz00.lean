/-
  Texts put together: Data, Yu, PrP, Sp, Ya.
-/
import Derived.Test.YtnphokhehacfnaaGreatDoorProg
import Derived.WalkKit
import Derived.WalkSpells
import Derived.WalkLawsBesides
import Derived.BigQuiet
import Derived.Deep.QuietTactic
import Derived.Outline
import Derived.Lib.Hide
import Derived.Laws.BitsAllLaws
namespace Go.Proofs.YtnphokhehacfnaaGreatDoor
open Go.RowKit

theorem hide {p : Prop} (h : p) : Hid p := h

/-! ### Memory -/

/-- From offset off of block b on stand the values cs. -/
def At (w : World) (b off : Nat) (cs : List Value) : Prop := ∀ (j : Nat) u, cs[j]? = some u → w.cell? ⟨b, off + j, none⟩ = some u

theorem At.keep {w w' : World} {b off : Nat} {cs : List Value} (h : At w b off cs) (hk : ∀ o, w'.cell? ⟨b, o, none⟩ = w.cell? ⟨b, o, none⟩) : At w' b off cs :=
  fun j u hu => (hk _).trans (h j u hu)
theorem At.below {w w' : World} {b B off : Nat} {cs : List Value} (h : At w b off cs) (hb : Below B w w') (hlt : b < B) : At w' b off cs :=
  h.keep fun o => hb.cell (p := ⟨b, o, none⟩) hlt
theorem At.new (w : World) (cs : List Value) (t : TypeId) : At (w.alloc (.cells cs.toArray t)) w.heap.size 0 cs := fun j u hu => by
  rw [World.cell?_alloc_new]
  simpa using hu
theorem At.l1 {w : World} {b off : Nat} {x0 : Value} (h : At w b off [x0]) : w.cell? ⟨b, off, none⟩ = some x0 := (by simpa using h 0 x0 rfl)
theorem At.z1 {w : World} {b : Nat} {x0 : Value} (h : At w b 0 [x0]) : w.cell? ⟨b, 0, none⟩ = some x0 := (by simpa using h 0 x0 rfl)
theorem At.l2 {w : World} {b off : Nat} {x0 x1 : Value} (h : At w b off [x0, x1]) : w.cell? ⟨b, off, none⟩ = some x0 ∧ w.cell? ⟨b, off + 1, none⟩ = some x1 := ⟨(by simpa using h 0 x0 rfl), (by simpa using h 1 x1 rfl)⟩
theorem At.z2 {w : World} {b : Nat} {x0 x1 : Value} (h : At w b 0 [x0, x1]) : w.cell? ⟨b, 0, none⟩ = some x0 ∧ w.cell? ⟨b, 1, none⟩ = some x1 := ⟨(by simpa using h 0 x0 rfl), (by simpa using h 1 x1 rfl)⟩
theorem At.l3 {w : World} {b off : Nat} {x0 x1 x2 : Value} (h : At w b off [x0, x1, x2]) : w.cell? ⟨b, off, none⟩ = some x0 ∧ w.cell? ⟨b, off + 1, none⟩ = some x1 ∧ w.cell? ⟨b, off + 2, none⟩ = some x2 := ⟨(by simpa using h 0 x0 rfl), (by simpa using h 1 x1 rfl), (by simpa using h 2 x2 rfl)⟩
theorem At.z3 {w : World} {b : Nat} {x0 x1 x2 : Value} (h : At w b 0 [x0, x1, x2]) : w.cell? ⟨b, 0, none⟩ = some x0 ∧ w.cell? ⟨b, 1, none⟩ = some x1 ∧ w.cell? ⟨b, 2, none⟩ = some x2 := ⟨(by simpa using h 0 x0 rfl), (by simpa using h 1 x1 rfl), (by simpa using h 2 x2 rfl)⟩
theorem At.l4 {w : World} {b off : Nat} {x0 x1 x2 x3 : Value} (h : At w b off [x0, x1, x2, x3]) : w.cell? ⟨b, off, none⟩ = some x0 ∧ w.cell? ⟨b, off + 1, none⟩ = some x1 ∧ w.cell? ⟨b, off + 2, none⟩ = some x2 ∧ w.cell? ⟨b, off + 3, none⟩ = some x3 := ⟨(by simpa using h 0 x0 rfl), (by simpa using h 1 x1 rfl), (by simpa using h 2 x2 rfl), (by simpa using h 3 x3 rfl)⟩
theorem At.z4 {w : World} {b : Nat} {x0 x1 x2 x3 : Value} (h : At w b 0 [x0, x1, x2, x3]) : w.cell? ⟨b, 0, none⟩ = some x0 ∧ w.cell? ⟨b, 1, none⟩ = some x1 ∧ w.cell? ⟨b, 2, none⟩ = some x2 ∧ w.cell? ⟨b, 3, none⟩ = some x3 := ⟨(by simpa using h 0 x0 rfl), (by simpa using h 1 x1 rfl), (by simpa using h 2 x2 rfl), (by simpa using h 3 x3 rfl)⟩
theorem At.l5 {w : World} {b off : Nat} {x0 x1 x2 x3 x4 : Value} (h : At w b off [x0, x1, x2, x3, x4]) : w.cell? ⟨b, off, none⟩ = some x0 ∧ w.cell? ⟨b, off + 1, none⟩ = some x1 ∧ w.cell? ⟨b, off + 2, none⟩ = some x2 ∧ w.cell? ⟨b, off + 3, none⟩ = some x3 ∧ w.cell? ⟨b, off + 4, none⟩ = some x4 := ⟨(by simpa using h 0 x0 rfl), (by simpa using h 1 x1 rfl), (by simpa using h 2 x2 rfl), (by simpa using h 3 x3 rfl), (by simpa using h 4 x4 rfl)⟩
theorem At.z5 {w : World} {b : Nat} {x0 x1 x2 x3 x4 : Value} (h : At w b 0 [x0, x1, x2, x3, x4]) : w.cell? ⟨b, 0, none⟩ = some x0 ∧ w.cell? ⟨b, 1, none⟩ = some x1 ∧ w.cell? ⟨b, 2, none⟩ = some x2 ∧ w.cell? ⟨b, 3, none⟩ = some x3 ∧ w.cell? ⟨b, 4, none⟩ = some x4 := ⟨(by simpa using h 0 x0 rfl), (by simpa using h 1 x1 rfl), (by simpa using h 2 x2 rfl), (by simpa using h 3 x3 rfl), (by simpa using h 4 x4 rfl)⟩
theorem At.z6 {w : World} {b : Nat} {x0 x1 x2 x3 x4 x5 : Value} (h : At w b 0 [x0, x1, x2, x3, x4, x5]) : w.cell? ⟨b, 0, none⟩ = some x0 ∧ w.cell? ⟨b, 1, none⟩ = some x1 ∧ w.cell? ⟨b, 2, none⟩ = some x2 ∧ w.cell? ⟨b, 3, none⟩ = some x3 ∧ w.cell? ⟨b, 4, none⟩ = some x4 ∧ w.cell? ⟨b, 5, none⟩ = some x5 := ⟨(by simpa using h 0 x0 rfl), (by simpa using h 1 x1 rfl), (by simpa using h 2 x2 rfl), (by simpa using h 3 x3 rfl), (by simpa using h 4 x4 rfl), (by simpa using h 5 x5 rfl)⟩
theorem At.z7 {w : World} {b : Nat} {x0 x1 x2 x3 x4 x5 x6 : Value} (h : At w b 0 [x0, x1, x2, x3, x4, x5, x6]) : w.cell? ⟨b, 0, none⟩ = some x0 ∧ w.cell? ⟨b, 1, none⟩ = some x1 ∧ w.cell? ⟨b, 2, none⟩ = some x2 ∧ w.cell? ⟨b, 3, none⟩ = some x3 ∧ w.cell? ⟨b, 4, none⟩ = some x4 ∧ w.cell? ⟨b, 5, none⟩ = some x5 ∧ w.cell? ⟨b, 6, none⟩ = some x6 := ⟨(by simpa using h 0 x0 rfl), (by simpa using h 1 x1 rfl), (by simpa using h 2 x2 rfl), (by simpa using h 3 x3 rfl), (by simpa using h 4 x4 rfl), (by simpa using h 5 x5 rfl), (by simpa using h 6 x6 rfl)⟩
theorem At.l8 {w : World} {b off : Nat} {x0 x1 x2 x3 x4 x5 x6 x7 : Value} (h : At w b off [x0, x1, x2, x3, x4, x5, x6, x7]) : w.cell? ⟨b, off, none⟩ = some x0 ∧ w.cell? ⟨b, off + 1, none⟩ = some x1 ∧ w.cell? ⟨b, off + 2, none⟩ = some x2 ∧ w.cell? ⟨b, off + 3, none⟩ = some x3 ∧ w.cell? ⟨b, off + 4, none⟩ = some x4 ∧ w.cell? ⟨b, off + 5, none⟩ = some x5 ∧ w.cell? ⟨b, off + 6, none⟩ = some x6 ∧ w.cell? ⟨b, off + 7, none⟩ = some x7 := ⟨(by simpa using h 0 x0 rfl), (by simpa using h 1 x1 rfl), (by simpa using h 2 x2 rfl), (by simpa using h 3 x3 rfl), (by simpa using h 4 x4 rfl), (by simpa using h 5 x5 rfl), (by simpa using h 6 x6 rfl), (by simpa using h 7 x7 rfl)⟩
theorem At.l9 {w : World} {b off : Nat} {x0 x1 x2 x3 x4 x5 x6 x7 x8 : Value} (h : At w b off [x0, x1, x2, x3, x4, x5, x6, x7, x8]) : w.cell? ⟨b, off, none⟩ = some x0 ∧ w.cell? ⟨b, off + 1, none⟩ = some x1 ∧ w.cell? ⟨b, off + 2, none⟩ = some x2 ∧ w.cell? ⟨b, off + 3, none⟩ = some x3 ∧ w.cell? ⟨b, off + 4, none⟩ = some x4 ∧ w.cell? ⟨b, off + 5, none⟩ = some x5 ∧ w.cell? ⟨b, off + 6, none⟩ = some x6 ∧ w.cell? ⟨b, off + 7, none⟩ = some x7 ∧ w.cell? ⟨b, off + 8, none⟩ = some x8 := ⟨(by simpa using h 0 x0 rfl), (by simpa using h 1 x1 rfl), (by simpa using h 2 x2 rfl), (by simpa using h 3 x3 rfl), (by simpa using h 4 x4 rfl), (by simpa using h 5 x5 rfl), (by simpa using h 6 x6 rfl), (by simpa using h 7 x7 rfl), (by simpa using h 8 x8 rfl)⟩
theorem At.z9 {w : World} {b : Nat} {x0 x1 x2 x3 x4 x5 x6 x7 x8 : Value} (h : At w b 0 [x0, x1, x2, x3, x4, x5, x6, x7, x8]) : w.cell? ⟨b, 0, none⟩ = some x0 ∧ w.cell? ⟨b, 1, none⟩ = some x1 ∧ w.cell? ⟨b, 2, none⟩ = some x2 ∧ w.cell? ⟨b, 3, none⟩ = some x3 ∧ w.cell? ⟨b, 4, none⟩ = some x4 ∧ w.cell? ⟨b, 5, none⟩ = some x5 ∧ w.cell? ⟨b, 6, none⟩ = some x6 ∧ w.cell? ⟨b, 7, none⟩ = some x7 ∧ w.cell? ⟨b, 8, none⟩ = some x8 := ⟨(by simpa using h 0 x0 rfl), (by simpa using h 1 x1 rfl), (by simpa using h 2 x2 rfl), (by simpa using h 3 x3 rfl), (by simpa using h 4 x4 rfl), (by simpa using h 5 x5 rfl), (by simpa using h 6 x6 rfl), (by simpa using h 7 x7 rfl), (by simpa using h 8 x8 rfl)⟩
theorem At.z10 {w : World} {b : Nat} {x0 x1 x2 x3 x4 x5 x6 x7 x8 x9 : Value} (h : At w b 0 [x0, x1, x2, x3, x4, x5, x6, x7, x8, x9]) : w.cell? ⟨b, 0, none⟩ = some x0 ∧ w.cell? ⟨b, 1, none⟩ = some x1 ∧ w.cell? ⟨b, 2, none⟩ = some x2 ∧ w.cell? ⟨b, 3, none⟩ = some x3 ∧ w.cell? ⟨b, 4, none⟩ = some x4 ∧ w.cell? ⟨b, 5, none⟩ = some x5 ∧ w.cell? ⟨b, 6, none⟩ = some x6 ∧ w.cell? ⟨b, 7, none⟩ = some x7 ∧ w.cell? ⟨b, 8, none⟩ = some x8 ∧ w.cell? ⟨b, 9, none⟩ = some x9 := ⟨(by simpa using h 0 x0 rfl), (by simpa using h 1 x1 rfl), (by simpa using h 2 x2 rfl), (by simpa using h 3 x3 rfl), (by simpa using h 4 x4 rfl), (by simpa using h 5 x5 rfl), (by simpa using h 6 x6 rfl), (by simpa using h 7 x7 rfl), (by simpa using h 8 x8 rfl), (by simpa using h 9 x9 rfl)⟩

/-- A slice's address A leads to elements of 'size' cells each, below block B: element i holds the i-th list. -/
def SlAt (w : World) (B size : Nat) (A : Option Addr) (l : List (List Value)) : Prop :=
  0 < l.length → ∃ b off, A = some ⟨b, off, none⟩ ∧ b < B ∧ ∀ (i : Nat) cs, l[i]? = some cs → At w b (off + i * size) cs

theorem SlAt.nil_ {w : World} {B size : Nat} {A : Option Addr} : SlAt w B size A [] := fun h => absurd h (by simp)
theorem SlAt.keep {w w' : World} {B size : Nat} {A : Option Addr} {l : List (List Value)} (h : SlAt w B size A l) (hb : Below B w w') : SlAt w' B size A l := by
  intro hl
  obtain ⟨b, off, e, hlt, hc⟩ := h hl
  exact ⟨b, off, e, hlt, fun i cs hi => (hc i cs hi).keep fun o => hb.cell (p := ⟨b, o, none⟩) hlt⟩
theorem SlAt.more {w : World} {B B' size : Nat} {A : Option Addr} {l : List (List Value)} (h : SlAt w B size A l) (hB : B ≤ B') : SlAt w B' size A l := by
  intro hl
  obtain ⟨b, off, e, hlt, hc⟩ := h hl
  exact ⟨b, off, e, by omega, hc⟩

theorem bcell {W w1 : World} {B : Nat} (hb : Below B W w1) :
    (∀ b o, b < B → w1.cell? ⟨b, o, none⟩ = W.cell? ⟨b, o, none⟩) ∧ (∀ b o, b < B → w1.frozen? ⟨b, o, none⟩ = W.frozen? ⟨b, o, none⟩) :=
  ⟨fun b o h => hb.cell (p := ⟨b, o, none⟩) h, fun b o h => hb.frozen (p := ⟨b, o, none⟩) h⟩

theorem hsz (w : World) (o : Obj) : (w.alloc o).heap.size = w.heap.size + 1 := by simp
theorem below_a1 (w : World) (o : Obj) : Below w.heap.size w (w.alloc o) := (Below.refl _ _).alloc (Nat.le_refl _) _

theorem SlAt.al {w : World} {size : Nat} {A : Option Addr} {l : List (List Value)} (h : SlAt w w.heap.size size A l) (o : Obj) : SlAt (w.alloc o) (w.alloc o).heap.size size A l :=
  (h.keep (below_a1 w o)).more (by rw [hsz]; omega)
theorem below_from1 {w w' : World} {o : Obj} (h : Below (w.alloc o).heap.size (w.alloc o) w') : Below w.heap.size w w' := (below_a1 w o).trans (h.mono (by rw [hsz]; omega))

theorem ret_int {k : IntKind} {a b : Int} (h : a = b) : Ending.returned (.int k a) = .returned (.int k b) := by rw [h]
theorem ret_bool {a b : Bool} (h : a = b) : Ending.returned (.bool a) = .returned (.bool b) := by rw [h]

/-! ### A schema's data -/

structure Col where
  id : Int
  name : ByteArray
  kind : Int

def Col.cells (c : Col) : List Value := [.int .i64 c.id, .string c.name, .int .i64 c.kind]
def Col.val (c : Col) : Value := .agg #[.int .i64 c.id, .string c.name, .int .i64 c.kind]

/-- The place of the first that p takes; -1: none. -/
def idx {α : Type} (p : α → Bool) (l : List α) : Int := if l.findIdx p < l.length then (l.findIdx p : Int) else -1

theorem fi_hit {α : Type} (p : α → Bool) : ∀ (l : List α) (k : Nat) (h : k < l.length), k ≤ l.findIdx p → p l[k] = true → l.findIdx p = k
  | [], _, h, _, _ => by simp at h
  | x :: r, k, h, hle, hp => by
    rw [List.findIdx_cons] at hle ⊢
    cases hx : p x with
    | true => simp [hx] at hle ⊢; omega
    | false =>
      simp [hx] at hle ⊢
      cases k with
      | zero => simp [hx] at hp
      | succ k => rw [fi_hit p r k (by simpa using h) (by omega) (by simpa using hp)]
theorem fi_miss {α : Type} (p : α → Bool) : ∀ (l : List α) (k : Nat) (h : k < l.length), k ≤ l.findIdx p → p l[k] = false → k + 1 ≤ l.findIdx p
  | [], _, h, _, _ => by simp at h
  | x :: r, k, h, hle, hp => by
    rw [List.findIdx_cons] at hle ⊢
    cases hx : p x with
    | true =>
      simp [hx] at hle
      subst hle
      simp [hx] at hp
    | false =>
      simp [hx] at hle ⊢
      cases k with
      | zero => omega
      | succ k => have := fi_miss p r k (by simpa using h) (by omega) (by simpa using hp); omega

/-- The bytes that a name may have. -/
def nameSet : List UInt8 := [97, 98, 99, 100, 101, 102, 103, 104, 105, 106, 107, 108, 109, 110, 111, 112, 113, 114, 115, 116, 117, 118, 119, 120, 121, 122, 48, 49, 50, 51, 52, 53, 54, 55, 56, 57, 95]
def nameB (s : ByteArray) : Bool := decide (1 ≤ s.size) && decide (s.size ≤ 16) && s.data.toList.all (nameSet.contains ·)

def kindB (k : Int) : Bool := decide (1 ≤ k ∧ k ≤ 3)

structure Sch where
  id : Int
  cols : List Col
  next : Int

def headOk (s : Sch) : Prop := 0 ≤ s.id ∧ s.id ≤ 2147483647 ∧ 1 ≤ s.cols.length ∧ s.cols.length ≤ 12 ∧ 1 ≤ s.next ∧ s.next ≤ 2147483647
instance (s : Sch) : Decidable (headOk s) := by unfold headOk; infer_instance
def colOk (next : Int) (c : Col) : Bool := decide (1 ≤ c.id) && decide (c.id < next) && nameB c.name && kindB c.kind
def clash (c o : Col) : Bool := o.id == c.id || o.name.toList == c.name.toList
def okAt (next : Int) (cols : List Col) (i : Nat) : Bool := match cols[i]? with
  | some c => colOk next c && !(cols.take i).any (clash c)
  | none => true
def okUpto (next : Int) (cols : List Col) : Nat → Bool
  | 0 => true
  | k + 1 => okUpto next cols k && okAt next cols k
def mayB (s : Sch) : Bool := decide (headOk s) && okUpto s.next s.cols s.cols.length

def Sch.zero : Sch := ⟨0, [], 0⟩
/-- What 'next' answers of a schema: it, or the error. -/
def nextR (s : Sch) : Sch × Int := if mayB s then (s, 0) else (Sch.zero, 1200)

def named (nm : ByteArray) (c : Col) : Bool := c.name.toList == nm.toList
def addR (s : Sch) (nm : ByteArray) (k : Int) : Sch × Int :=
  if mayB s = false then (Sch.zero, 1200) else if nameB nm = false then (Sch.zero, 1201) else if 0 ≤ idx (named nm) s.cols then (Sch.zero, 1201) else if kindB k = false then (Sch.zero, 1200)
  else if 12 ≤ s.cols.length then (Sch.zero, 1203) else nextR ⟨s.id + 1, s.cols ++ [⟨s.next, nm, k⟩], s.next + 1⟩
def dropR (s : Sch) (nm : ByteArray) : Sch × Int :=
  if mayB s = false then (Sch.zero, 1200) else if idx (named nm) s.cols < 0 then (Sch.zero, 1202) else if s.cols.length = 1 then (Sch.zero, 1203)
  else nextR ⟨s.id + 1, s.cols.eraseIdx (s.cols.findIdx (named nm)), s.next⟩
def setName (cols : List Col) (k : Nat) (to : ByteArray) : List Col := cols.modify k fun c => { c with name := to }
def renameR (s : Sch) (nm to : ByteArray) : Sch × Int :=
  if mayB s = false then (Sch.zero, 1200) else if idx (named nm) s.cols < 0 then (Sch.zero, 1202) else if nameB to = false then (Sch.zero, 1201)
  else if 0 ≤ idx (named to) s.cols ∧ idx (named to) s.cols ≠ idx (named nm) s.cols then (Sch.zero, 1201)
  else nextR ⟨s.id + 1, setName s.cols (s.cols.findIdx (named nm)) to, s.next⟩

theorem idx_yes {α : Type} {p : α → Bool} {l : List α} (h : 0 ≤ idx p l) : idx p l = (l.findIdx p : Int) ∧ l.findIdx p < l.length := by
  unfold idx at h ⊢
  split at h
  · rename_i hl; exact ⟨by rw [if_pos hl], hl⟩
  · omega
theorem idx_bd {α : Type} (p : α → Bool) (l : List α) : -1 ≤ idx p l ∧ idx p l < l.length := by
  unfold idx
  split <;> omega

def strCells (l : List ByteArray) : List (List Value) := l.map fun s => [.string s]
def intCells (l : List Int) : List (List Value) := l.map fun n => [.int .i64 n]
/-- The columns that New makes of names and kinds. -/
def newCols : List ByteArray → List Int → Nat → List Col
  | n :: ns, k :: ks, i => ⟨(i : Int) + 1, n, k⟩ :: newCols ns ks (i + 1)
  | _, _, _ => []
def newR (ns : List ByteArray) (ks : List Int) : Sch × Int :=
  if ns.length ≠ ks.length ∨ 12 < ns.length then (Sch.zero, 1200) else nextR ⟨0, newCols ns ks 0, ns.length + 1⟩
theorem newCols_length : ∀ (ns : List ByteArray) (ks : List Int) (i : Nat), ns.length = ks.length → (newCols ns ks i).length = ns.length
  | [], ks, i, _ => by simp [newCols]
  | n :: ns, [], i, h => by simp at h
  | n :: ns, k :: ks, i, h => by simp [newCols, newCols_length ns ks (i + 1) (by simpa using h)]
theorem newCols_get : ∀ (ns : List ByteArray) (ks : List Int) (i j : Nat) (n : ByteArray) (k : Int), ns[j]? = some n → ks[j]? = some k → (newCols ns ks i)[j]? = some ⟨((i + j : Nat) : Int) + 1, n, k⟩
  | [], ks, i, j, n, k, h, _ => by simp at h
  | n :: ns, [], i, j, n', k, _, h => by simp at h
  | n :: ns, k :: ks, i, 0, n', k', h, h' => by simp at h h'; subst h; subst h'; simp [newCols]
  | n :: ns, k :: ks, i, j + 1, n', k', h, h' => by
    have := newCols_get ns ks (i + 1) j n' k' (by simpa using h) (by simpa using h')
    simp only [newCols, List.getElem?_cons_succ, this]
    congr 3
    omega
theorem newCols_mem : ∀ (ns : List ByteArray) (ks : List Int) (i : Nat) (c : Col), c ∈ newCols ns ks i → c.name ∈ ns
  | [], ks, i, c, h => by simp [newCols] at h
  | n :: ns, [], i, c, h => by simp [newCols] at h
  | n :: ns, k :: ks, i, c, h => by
    simp only [newCols, List.mem_cons] at h
    rcases h with rfl | h
    · simp
    · exact List.mem_cons_of_mem _ (newCols_mem ns ks (i + 1) c h)

theorem okUpto_le {next : Int} {cols : List Col} {k : Nat} : ∀ {n : Nat}, k ≤ n → okUpto next cols n = true → okUpto next cols k = true
  | 0, h, _ => by obtain rfl : k = 0 := by omega
                  rfl
  | n + 1, h, hn => by
    by_cases e : k = n + 1
    · subst e; exact hn
    · simp only [okUpto, Bool.and_eq_true] at hn
      exact okUpto_le (by omega) hn.1
theorem okUpto_bad {next : Int} {cols : List Col} {k : Nat} (hk : k < cols.length) (h : okAt next cols k = false) : okUpto next cols cols.length = false := by
  cases e : okUpto next cols cols.length with
  | false => rfl
  | true =>
    have := okUpto_le (k := k + 1) (by omega) e
    simp [okUpto, h] at this

theorem okAt_of {next : Int} {cols : List Col} {k : Nat} {c : Col} (hc : cols[k]? = some c) (h : colOk next c = false) : okAt next cols k = false := by
  simp [okAt, hc, h]
theorem okAt_clash {next : Int} {cols : List Col} {k : Nat} {c : Col} (hc : cols[k]? = some c) (h : (cols.take k).any (clash c) = true) : okAt next cols k = false := by
  simp only [okAt, hc, h, Bool.not_true, Bool.and_false]
theorem okAt_yes {next : Int} {cols : List Col} {k : Nat} {c : Col} (hc : cols[k]? = some c) (h : colOk next c = true) (h2 : (cols.take k).any (clash c) = false) : okAt next cols k = true := by
  simp only [okAt, hc, h, h2, Bool.not_false, Bool.and_self]
theorem colOk_yes {next : Int} {c : Col} (h1 : 1 ≤ c.id) (h2 : c.id < next) (h3 : nameB c.name = true) (h4 : kindB c.kind = true) : colOk next c = true := by
  simp [colOk, h1, h2, h3, h4]
theorem colOk_inv {next : Int} {c : Col} (h : colOk next c = true) : 1 ≤ c.id ∧ c.id < next ∧ nameB c.name = true ∧ kindB c.kind = true := by
  simpa [colOk, and_assoc] using h
theorem clash_id {c d : Col} (h : d.id = c.id) : clash c d = true := by simp [clash, h]
theorem clash_or {c d : Col} (h : (d.id == c.id) = true ∨ (d.name.toList == c.name.toList) = true) : clash c d = true := by
  rcases h with h | h <;> simp only [clash, h, Bool.true_or, Bool.or_true]
theorem clash_no {c d : Col} (h : (d.id == c.id) = false ∧ (d.name.toList == c.name.toList) = false) : clash c d = false := by
  simp only [clash, h.1, h.2, Bool.or_self]
theorem any_take_succ {α : Type} (p : α → Bool) (l : List α) (j : Nat) (h : j < l.length) : (l.take (j + 1)).any p = ((l.take j).any p || p l[j]) := by
  rw [List.take_succ_eq_append_getElem h, List.any_append]
  simp
theorem any_take_yes {α : Type} (p : α → Bool) (l : List α) (j k : Nat) (hj : j < k) (h : j < l.length) (hp : p l[j] = true) : (l.take k).any p = true := by
  refine List.any_eq_true.2 ⟨l[j], ?_, hp⟩
  exact List.mem_take_iff_getElem.2 ⟨j, by omega, rfl⟩

end Go.Proofs.YtnphokhehacfnaaGreatDoor

namespace Go.Proofs.YtnphokhehacfnaaGreatDoor
open Go.RowKit

/-- A byte of UTF-8 that goes on: its six bits; -1: none. -/
def nextB (s : ByteArray) (i : Nat) : Int := if h : i < s.size then (if 128 ≤ s[i].toNat ∧ s[i].toNat ≤ 191 then (s[i].toNat : Int) - 128 else -1) else -1
/-- The rune of a first byte and what goes on. -/
def runeC (c a b d : Int) : Int × Int :=
  if c < 128 then (c, 1)
  else if c < 194 ∨ 244 < c then (0, 0)
  else if c < 224 ∧ 0 ≤ a then ((c - 192) * 64 + a, 2)
  else if 224 ≤ c ∧ c < 240 ∧ 0 ≤ a ∧ 0 ≤ b then (if 2048 ≤ (c - 224) * 4096 + a * 64 + b ∧ ((c - 224) * 4096 + a * 64 + b < 55296 ∨ 57343 < (c - 224) * 4096 + a * 64 + b) then ((c - 224) * 4096 + a * 64 + b, 3) else (0, 0))
  else if 240 ≤ c ∧ 0 ≤ a ∧ 0 ≤ b ∧ 0 ≤ d then (if 65536 ≤ (c - 240) * 262144 + a * 4096 + b * 64 + d ∧ (c - 240) * 262144 + a * 4096 + b * 64 + d ≤ 1114111 then ((c - 240) * 262144 + a * 4096 + b * 64 + d, 4) else (0, 0))
  else (0, 0)
/-- The rune at a place, and how many bytes it has. -/
def runeT (s : ByteArray) (i : Nat) : Int × Int := if h : i < s.size then runeC s[i].toNat (nextB s (i + 1)) (nextB s (i + 2)) (nextB s (i + 3)) else (0, 0)
def runeR (s : ByteArray) (at_ : Int) : Int × Int := if at_ < 0 then (0, 0) else runeT s at_.toNat

theorem nextB_lt {s : ByteArray} {i : Nat} (h : 0 ≤ nextB s i) : i < s.size := by
  unfold nextB at h
  split at h
  · assumption
  · omega
theorem nextB_bd (s : ByteArray) (i : Nat) : -1 ≤ nextB s i ∧ nextB s i < 64 := by
  unfold nextB
  split
  · split <;> omega
  · omega
theorem runeT_bd (s : ByteArray) (i : Nat) : 0 ≤ (runeT s i).2 ∧ (runeT s i).2 ≤ 4 ∧ (0 < (runeT s i).2 → i + (runeT s i).2.toNat ≤ s.size) := by
  unfold runeT
  split
  · rename_i hi
    have h1 : 0 ≤ nextB s (i + 1) → i + 1 < s.size := nextB_lt
    have h2 : 0 ≤ nextB s (i + 2) → i + 2 < s.size := nextB_lt
    have h3 : 0 ≤ nextB s (i + 3) → i + 3 < s.size := nextB_lt
    unfold runeC
    split
    · simp; omega
    split
    · simp
    split
    · simp; omega
    split
    · split <;> simp
      omega
    split
    · split <;> simp
      omega
    · simp
  · simp

/-- The first place that is no rune's beginning; -1: all are runes. -/
def firstN : Nat → ByteArray → Nat → Int
  | 0, _, _ => -1
  | f + 1, s, i => if i < s.size then (if (runeT s i).2 = 0 then (i : Int) else firstN f s (i + (runeT s i).2.toNat)) else -1
def firstR (s : ByteArray) : Int := firstN (s.size + 1) s 0
def validB (s : ByteArray) : Bool := decide (firstR s < 0)
/-- The place behind the first so many runes. -/
def preN : Nat → ByteArray → Nat → Nat
  | 0, _, i => i
  | m + 1, s, i => if i < s.size then preN m s (i + (max (runeT s i).2 1).toNat) else i
/-! ### The forms of 1 to 4 bytes, as the program asks for them -/
def maskT : Nat → Int | 1 => 128 | 2 => 224 | 3 => 240 | 4 => 248 | _ => 0
def headT : Nat → Int | 1 => 0 | 2 => 192 | 3 => 224 | 4 => 240 | _ => 0
def leastT : Nat → Int | 2 => 128 | 3 => 2048 | 4 => 65536 | _ => 0
/-- Which form a first byte has; 5: none. -/
def formT (c : Nat) : Nat := if c < 128 then 1 else if c < 192 then 5 else if c < 224 then 2 else if c < 240 then 3 else if c < 248 then 4 else 5
theorem form_tests : ∀ c : Fin 256, ∀ k : Fin 5, (bits .and .i64 (c.val : Int) (maskT k.val) == headT k.val) = (k.val == 0 || k.val == formT c.val) := by decide +kernel
theorem form_test (c : UInt8) {k : Nat} (hk : k < 5) : (bits .and .i64 (c.toNat : Int) (maskT k) == headT k) = (k == 0 || k == formT c.toNat) := form_tests ⟨c.toNat, c.toNat_lt⟩ ⟨k, hk⟩
theorem form_rests : ∀ c : Fin 256, ∀ k : Fin 5, formT c.val = k.val → bits .andNot .i64 (c.val : Int) (maskT k.val) = (c.val : Int) - headT k.val := by decide +kernel
theorem form_rest (c : UInt8) {k : Nat} (hk : k < 5) (h : formT c.toNat = k) : bits .andNot .i64 (c.toNat : Int) (maskT k) = (c.toNat : Int) - headT k := form_rests ⟨c.toNat, c.toNat_lt⟩ ⟨k, hk⟩ h
theorem on_tests : ∀ c : Fin 256, (bits .and .u8 (c.val : Int) 192 == 128) = (decide (128 ≤ c.val) && decide (c.val ≤ 191)) ∧ bits .and .u8 (c.val : Int) 63 = ((c.val % 64 : Nat) : Int) := by decide +kernel
theorem on_test (c : UInt8) : (bits .and .u8 (c.toNat : Int) 192 == 128) = (decide (128 ≤ c.toNat) && decide (c.toNat ≤ 191)) ∧ bits .and .u8 (c.toNat : Int) 63 = ((c.toNat % 64 : Nat) : Int) := on_tests ⟨c.toNat, c.toNat_lt⟩

def mayR (r : Int) : Bool := decide (0 ≤ r) && decide (r ≤ 1114111) && (decide (r < 55296) || decide (57343 < r))
/-- The number behind j bytes that go on. -/
def accT (s : ByteArray) (i : Nat) (c : Int) : Nat → Int
  | 0 => c
  | j + 1 => accT s i c j * 64 + nextB s (i + 1 + j)
theorem accT_bd {s : ByteArray} {i : Nat} {c : Int} (h0 : 0 ≤ c) (h1 : c < 256) : ∀ {j : Nat}, (∀ k, k < j → 0 ≤ nextB s (i + 1 + k)) → 0 ≤ accT s i c j ∧ accT s i c j < 256 * 64 ^ j
  | 0, _ => by simp [accT]; omega
  | j + 1, h => by
    have ⟨a, b⟩ := accT_bd h0 h1 (j := j) (fun k hk => h k (by omega))
    have n0 := h j (by omega)
    have n1 := (nextB_bd s (i + 1 + j)).2
    simp only [accT, Int.pow_succ]
    omega
theorem accT_3 {s : ByteArray} {i : Nat} {c : Int} (h0 : 0 ≤ c) (h1 : c < 256) {j : Nat} (hj : j ≤ 3) (h : ∀ k, k < j → 0 ≤ nextB s (i + 1 + k)) : 0 ≤ accT s i c j ∧ accT s i c j < 67108864 := by
  have ⟨a, b⟩ := accT_bd h0 h1 h
  refine ⟨a, ?_⟩
  match j, hj with
  | 0, _ => omega
  | 1, _ => omega
  | 2, _ => omega
  | 3, _ => omega
/-- What stands at the end of the program's Rune. -/
def endR (r : Int) (n : Nat) : Int × Int := if r < leastT n then (0, 0) else if mayR r then (r, (n : Int)) else (0, 0)
theorem form_le (c : Nat) : 1 ≤ formT c ∧ formT c ≤ 5 := by unfold formT; split <;> (try split) <;> (try split) <;> (try split) <;> (try split) <;> omega
theorem form_1 {c : Nat} (h : formT c = 1) : c < 128 := by
  unfold formT at h
  split at h
  · assumption
  · split at h <;> (try split at h) <;> (try split at h) <;> (try split at h) <;> omega
theorem form_2 {c : Nat} (h : formT c = 2) : 192 ≤ c ∧ c < 224 := by
  unfold formT at h
  split at h
  · omega
  · split at h
    · omega
    · split at h
      · omega
      · split at h <;> (try split at h) <;> omega
theorem form_3 {c : Nat} (h : formT c = 3) : 224 ≤ c ∧ c < 240 := by
  unfold formT at h
  split at h
  · omega
  · split at h
    · omega
    · split at h
      · omega
      · split at h
        · omega
        · split at h <;> omega
theorem form_4 {c : Nat} (h : formT c = 4) : 240 ≤ c ∧ c < 248 := by
  unfold formT at h
  split at h
  · omega
  · split at h
    · omega
    · split at h
      · omega
      · split at h
        · omega
        · split at h <;> omega
theorem form_5 {c : Nat} (h : formT c = 5) : (128 ≤ c ∧ c < 192) ∨ 248 ≤ c := by
  unfold formT at h
  split at h
  · omega
  · split at h
    · omega
    · split at h
      · omega
      · split at h
        · omega
        · split at h <;> omega
theorem runeT_at {s : ByteArray} {i : Nat} (hi : i < s.size) : runeT s i = runeC s[i].toNat (nextB s (i + 1)) (nextB s (i + 2)) (nextB s (i + 3)) := by rw [runeT, dif_pos hi]
/-- No form begins so. -/
theorem rune_none {s : ByteArray} {i : Nat} (hi : i < s.size) (h : formT s[i].toNat = 5) : runeT s i = (0, 0) := by
  rw [runeT_at hi, runeC]
  have := form_5 h
  rw [if_neg (by omega), if_pos (by omega)]
/-- Some byte that is to go on does not. -/
theorem rune_cut {s : ByteArray} {i : Nat} (hi : i < s.size) {n j : Nat} (hn : n ≤ 4) (h : formT s[i].toNat = n) (hj : j + 1 < n) (hb : nextB s (i + 1 + j) < 0) : runeT s i = (0, 0) := by
  rw [runeT_at hi, runeC]
  generalize ha : nextB s (i + 1) = a
  generalize hb2 : nextB s (i + 2) = b
  generalize hd : nextB s (i + 3) = d
  match n, j, hn, hj with
  | 2, 0, _, _ =>
    have := form_2 h
    rw [show i + 1 + 0 = i + 1 from rfl, ha] at hb
    rw [if_neg (by omega)]
    split
    · rfl
    · rw [if_neg (by omega), if_neg (by omega), if_neg (by omega)]
  | 3, 0, _, _ =>
    have := form_3 h
    rw [show i + 1 + 0 = i + 1 from rfl, ha] at hb
    rw [if_neg (by omega)]
    split
    · rfl
    · rw [if_neg (by omega), if_neg (by omega), if_neg (by omega)]
  | 3, 1, _, _ =>
    have := form_3 h
    rw [show i + 1 + 1 = i + 2 from rfl, hb2] at hb
    rw [if_neg (by omega)]
    split
    · rfl
    · rw [if_neg (by omega), if_neg (by omega), if_neg (by omega)]
  | 4, 0, _, _ =>
    have := form_4 h
    rw [show i + 1 + 0 = i + 1 from rfl, ha] at hb
    rw [if_neg (by omega)]
    split
    · rfl
    · rw [if_neg (by omega), if_neg (by omega), if_neg (by omega)]
  | 4, 1, _, _ =>
    have := form_4 h
    rw [show i + 1 + 1 = i + 2 from rfl, hb2] at hb
    rw [if_neg (by omega)]
    split
    · rfl
    · rw [if_neg (by omega), if_neg (by omega), if_neg (by omega)]
  | 4, 2, _, _ =>
    have := form_4 h
    rw [show i + 1 + 2 = i + 3 from rfl, hd] at hb
    rw [if_neg (by omega)]
    split
    · rfl
    · rw [if_neg (by omega), if_neg (by omega), if_neg (by omega)]
/-- The text ends ahead of the rune's end. -/
theorem rune_short {s : ByteArray} {i : Nat} (hi : i < s.size) {n : Nat} (hn : n ≤ 4) (h : formT s[i].toNat = n) (hs : s.size < i + n) : runeT s i = (0, 0) := by
  have hf := form_le s[i].toNat
  refine rune_cut (j := n - 2) hi hn h (by omega) ?_
  unfold nextB
  rw [dif_neg (by omega)]
  omega
/-- All bytes of the form are there. -/
theorem rune_end {s : ByteArray} {i : Nat} (hi : i < s.size) {n : Nat} (hn : n ≤ 4) (h : formT s[i].toNat = n) (hg : ∀ j, j < n - 1 → 0 ≤ nextB s (i + 1 + j)) : runeT s i = endR (accT s i ((s[i].toNat : Int) - headT n) (n - 1)) n := by
  have hf := form_le s[i].toNat
  have hc := s[i].toNat_lt
  rw [runeT_at hi]
  have B1 := nextB_bd s (i + 1); have B2 := nextB_bd s (i + 2); have B3 := nextB_bd s (i + 3)
  match n, hn, h with
  | 0, _, h => omega
  | 1, _, h =>
    have h1 := form_1 h
    have e : mayR (s[i].toNat : Int) = true := by simp [mayR]; omega
    have ea : accT s i ((s[i].toNat : Int) - headT 1) (1 - 1) = (s[i].toNat : Int) := by simp [accT, headT]
    rw [ea, runeC, endR, leastT, if_pos (by omega), if_neg (by omega), e]
    · rfl
    all_goals (intro h; cases h)
  | 2, _, h =>
    have h2 := form_2 h
    have g0 := hg 0 (by omega)
    rw [show i + 1 + 0 = i + 1 from rfl] at g0
    have ea : accT s i ((s[i].toNat : Int) - headT 2) (2 - 1) = ((s[i].toNat : Int) - 192) * 64 + nextB s (i + 1) := rfl
    rw [ea]
    generalize nextB s (i + 1) = a at *
    by_cases h3 : (s[i].toNat : Int) < 194
    · rw [runeC, if_neg (by omega), if_pos (by omega), endR, leastT, if_pos (by omega)]
    · have e : mayR (((s[i].toNat : Int) - 192) * 64 + a) = true := by simp [mayR]; omega
      rw [runeC, if_neg (by omega), if_neg (by omega), if_pos (by omega), endR, leastT, if_neg (by omega), e]
      rfl
  | 3, _, h =>
    have h2 := form_3 h
    have g0 := hg 0 (by omega)
    have g1 := hg 1 (by omega)
    rw [show i + 1 + 0 = i + 1 from rfl] at g0
    rw [show i + 1 + 1 = i + 2 from rfl] at g1
    have ea : accT s i ((s[i].toNat : Int) - headT 3) (3 - 1) = (((s[i].toNat : Int) - 224) * 64 + nextB s (i + 1)) * 64 + nextB s (i + 2) := rfl
    rw [ea]
    generalize nextB s (i + 1) = a at *
    generalize nextB s (i + 2) = b at *
    rw [runeC, if_neg (by omega), if_neg (by omega), if_neg (by omega), if_pos (by omega), show ((s[i].toNat : Int) - 224) * 4096 + a * 64 + b = (((s[i].toNat : Int) - 224) * 64 + a) * 64 + b by omega]
    generalize hr : (((s[i].toNat : Int) - 224) * 64 + a) * 64 + b = r
    rw [endR, leastT]
    by_cases h3 : r < 2048
    · rw [if_neg (by omega), if_pos h3]
    · rw [if_neg h3]
      by_cases h4 : r < 55296 ∨ 57343 < r
      · have e : mayR r = true := by simp [mayR]; omega
        rw [if_pos (by omega), e]
        rfl
      · have e : mayR r = false := by simp [mayR]; omega
        rw [if_neg (by omega), e]
        rfl
  | 4, _, h =>
    have h2 := form_4 h
    have g0 := hg 0 (by omega)
    have g1 := hg 1 (by omega)
    have g2 := hg 2 (by omega)
    rw [show i + 1 + 0 = i + 1 from rfl] at g0
    rw [show i + 1 + 1 = i + 2 from rfl] at g1
    rw [show i + 1 + 2 = i + 3 from rfl] at g2
    have ea : accT s i ((s[i].toNat : Int) - headT 4) (4 - 1) = ((((s[i].toNat : Int) - 240) * 64 + nextB s (i + 1)) * 64 + nextB s (i + 2)) * 64 + nextB s (i + 3) := rfl
    rw [ea]
    generalize nextB s (i + 1) = a at *
    generalize nextB s (i + 2) = b at *
    generalize nextB s (i + 3) = d at *
    by_cases h5 : 244 < (s[i].toNat : Int)
    · have e : mayR (((((s[i].toNat : Int) - 240) * 64 + a) * 64 + b) * 64 + d) = false := by simp [mayR]; omega
      rw [runeC, if_neg (by omega), if_pos (by omega), endR, e]
      simp
    rw [runeC, if_neg (by omega), if_neg (by omega), if_neg (by omega), if_neg (by omega), if_pos (by omega), show ((s[i].toNat : Int) - 240) * 262144 + a * 4096 + b * 64 + d = ((((s[i].toNat : Int) - 240) * 64 + a) * 64 + b) * 64 + d by omega]
    generalize hr : ((((s[i].toNat : Int) - 240) * 64 + a) * 64 + b) * 64 + d = r
    rw [endR, leastT]
    by_cases h3 : r < 65536
    · rw [if_neg (by omega), if_pos h3]
    · rw [if_neg h3]
      by_cases h4 : r ≤ 1114111
      · have e : mayR r = true := by simp [mayR]; omega
        rw [if_pos (by omega), e]
        rfl
      · have e : mayR r = false := by simp [mayR]; omega
        rw [if_neg (by omega), e]
        rfl
end Go.Proofs.YtnphokhehacfnaaGreatDoor

namespace Go.Proofs.YtnphokhehacfnaaGreatDoor
open Go.RowKit

structure Val where
  kind : Int
  i : Int
  b : Bool
  s : ByteArray

def Val.cells (v : Val) : List Value := [.int .i64 v.kind, .int .i64 v.i, .bool v.b, .string v.s]
def Val.val (v : Val) : Value := .agg #[.int .i64 v.kind, .int .i64 v.i, .bool v.b, .string v.s]
def Val.zero : Val := ⟨0, 0, false, .empty⟩
/-- A value's kind; of none that there is 0. -/
def kindV (v : Val) : Int := if v.kind = 1 ∨ v.kind = 2 ∨ v.kind = 3 then v.kind else 0
def clean (v : Val) : Val := if v.kind = 1 then ⟨1, v.i, false, .empty⟩ else if v.kind = 2 then ⟨2, 0, v.b, .empty⟩ else if v.kind = 3 then ⟨3, 0, false, v.s⟩ else Val.zero
def strLt (a b : ByteArray) : Bool := Op.bytesLess a.toList b.toList
def lessV (a b : Val) : Bool :=
  if kindV a ≠ kindV b then decide (kindV a < kindV b)
  else if kindV a = 1 then decide (a.i < b.i)
  else if kindV a = 2 then !a.b && b.b
  else if kindV a = 3 then strLt a.s b.s
  else false
def cmpV (a b : Val) : Int := if lessV a b then -1 else if lessV b a then 1 else 0

theorem kindV_bd (v : Val) : 0 ≤ kindV v ∧ kindV v ≤ 3 := by unfold kindV; split <;> omega
theorem clean_kind (v : Val) : (clean v).kind = kindV v := by
  unfold clean kindV
  by_cases h1 : v.kind = 1
  · simp [h1]
  by_cases h2 : v.kind = 2
  · simp [h2]
  by_cases h3 : v.kind = 3
  · simp [h3]
  simp [h1, h2, h3, Val.zero]
theorem kindV_clean (v : Val) : kindV (clean v) = kindV v := by
  have h := clean_kind v
  have hb := kindV_bd v
  show (if (clean v).kind = 1 ∨ (clean v).kind = 2 ∨ (clean v).kind = 3 then (clean v).kind else 0) = _
  rw [h]
  split <;> omega
theorem clean_i {v : Val} (h : kindV v = 1) : (clean v).i = v.i := by
  have h1 : v.kind = 1 := by unfold kindV at h; split at h <;> omega
  simp [clean, h1]
theorem clean_b {v : Val} (h : kindV v = 2) : (clean v).b = v.b := by
  have h1 : v.kind = 2 := by unfold kindV at h; split at h <;> omega
  simp [clean, h1]
theorem clean_s {v : Val} (h : kindV v = 3) : (clean v).s = v.s := by
  have h1 : v.kind = 3 := by unfold kindV at h; split at h <;> omega
  simp [clean, h1]
theorem lessV_clean_l (a b : Val) : lessV (clean a) b = lessV a b := by
  unfold lessV
  rw [kindV_clean]
  split
  · rfl
  split
  · rw [clean_i (by assumption)]
  split
  · rw [clean_b (by assumption)]
  split
  · rw [clean_s (by assumption)]
  rfl
theorem lessV_clean_r (a b : Val) : lessV a (clean b) = lessV a b := by
  unfold lessV
  rw [kindV_clean]
  split
  · rfl
  rename_i h
  have h : kindV a = kindV b := by simpa using h
  split
  · rw [clean_i (by omega)]
  split
  · rw [clean_b (by omega)]
  split
  · rw [clean_s (by omega)]
  rfl
theorem bytesLess_asymm : ∀ (a b : List UInt8), Op.bytesLess a b = true → Op.bytesLess b a = false
  | a, [], h => by cases a <;> simp [Op.bytesLess] at h
  | [], _ :: _, _ => by simp [Op.bytesLess]
  | x :: xs, y :: ys, h => by
    have ih := bytesLess_asymm xs ys
    simp only [Op.bytesLess, Bool.or_eq_true, Bool.and_eq_true, decide_eq_true_eq, beq_iff_eq] at h
    simp only [Op.bytesLess, Bool.or_eq_false_iff, Bool.and_eq_false_iff, decide_eq_false_iff_not]
    rcases h with h | ⟨rfl, h⟩
    · refine ⟨?_, .inl ?_⟩
      · simp only [UInt8.lt_iff_toNat_lt] at *; omega
      · simp only [beq_eq_false_iff_ne, ne_eq]
        rintro rfl
        simp at h
    · refine ⟨?_, .inr (ih h)⟩
      simp
theorem lessV_asymm {a b : Val} (h : lessV a b = true) : lessV b a = false := by
  unfold lessV at h ⊢
  by_cases hk : kindV a = kindV b
  · rw [if_neg (by simpa using hk)] at h
    rw [if_neg (by simpa using hk.symm), ← hk]
    split at h
    · rename_i h1
      rw [if_pos h1]
      simp at h ⊢; omega
    split at h
    · rename_i h1 h2
      rw [if_neg h1, if_pos h2]
      cases ha : a.b <;> cases hb : b.b <;> simp_all
    split at h
    · rename_i h1 h2 h3
      rw [if_neg h1, if_neg h2, if_pos h3]
      exact bytesLess_asymm _ _ h
    cases h
  · rw [if_pos (by simpa using hk)] at h
    rw [if_pos (by simpa using fun e => hk e.symm)]
    simp at h ⊢; omega

/-- Does a value stand so to another? -/
def standB (cmp : Int) (a b : Val) : Bool :=
  if cmp = 0 then !lessV a b && !lessV b a else if cmp = 1 then lessV a b || lessV b a else if cmp = 2 then lessV a b else if cmp = 3 then !lessV b a else if cmp = 4 then lessV b a else !lessV a b
def standR (cmp c : Int) : Bool :=
  if cmp = 0 then c == 0 else if cmp = 1 then c != 0 else if cmp = 2 then decide (c < 0) else if cmp = 3 then decide (c ≤ 0) else if cmp = 4 then decide (0 < c) else decide (0 ≤ c)
theorem standB_clean (cmp : Int) (a b : Val) : standB cmp (clean a) b = standB cmp a b := by
  unfold standB
  rw [lessV_clean_l, lessV_clean_r]
def truthI (b : Bool) : Int := if b then 1 else 0

/-- A predicate's node. -/
structure Nod where
  kind : Int
  col : ByteArray
  cmp : Int
  v : Val
  l : Int
  r : Int
def Nod.cells (n : Nod) : List Value := [.int .i64 n.kind, .string n.col, .int .i64 n.cmp, .int .i64 n.v.kind, .int .i64 n.v.i, .bool n.v.b, .string n.v.s, .int .i64 n.l, .int .i64 n.r]
def Nod.val (n : Nod) : Value := .agg #[.int .i64 n.kind, .string n.col, .int .i64 n.cmp, n.v.val, .int .i64 n.l, .int .i64 n.r]

def leafT (n : Nod) (v : Val) : Int := if n.kind = 0 then 1 else if n.kind = 2 then truthI (kindV v == 0) else if kindV v = 0 then 2 else truthI (standB n.cmp v n.v)
def joinT (kind a b : Int) : Int :=
  if kind = 3 then (if a = 2 then 2 else truthI (a == 0))
  else if kind = 4 ∧ (a = 0 ∨ b = 0) then 0 else if kind = 5 ∧ (a = 1 ∨ b = 1) then 1 else if a = 2 ∨ b = 2 then 2 else truthI (kind == 4)
/-- The document's both and turned. -/
def bothR (or : Bool) (a b : Int) : Int := let st : Int := if or then 1 else 0; if a = st ∨ b = st then st else if a = 2 ∨ b = 2 then 2 else 1 - st
def turnR (a : Int) : Int := if a = 2 then a else 1 - a
def Tr (a : Int) : Prop := a = 0 ∨ a = 1 ∨ a = 2
theorem truthI_tr (b : Bool) : Tr (truthI b) := by cases b <;> simp [truthI, Tr]
theorem leafT_tr (n : Nod) (v : Val) : Tr (leafT n v) := by
  unfold leafT
  repeat' split
  all_goals first | exact truthI_tr _ | simp [Tr]
theorem joinT_tr (k a b : Int) : Tr (joinT k a b) := by
  unfold joinT
  repeat' split
  all_goals first | exact truthI_tr _ | simp [Tr]

/-- May the node at a place be? -/
def ahead (k : Int) (at_ : Nat) : Bool := decide (0 ≤ k) && decide (k < at_)
def nodB (n : Nod) (at_ : Nat) : Bool :=
  if n.kind = 0 ∨ n.kind = 2 then true
  else if n.kind = 1 then decide (0 ≤ n.cmp) && decide (n.cmp ≤ 5) && kindB n.v.kind && (n.v.kind != 3 || decide (n.v.s.size ≤ 64))
  else if n.kind = 3 then ahead n.l at_
  else if n.kind = 4 ∨ n.kind = 5 then ahead n.l at_ && ahead n.r at_
  else false
def nodsUpto (ns : List Nod) : Nat → Bool
  | 0 => true
  | k + 1 => nodsUpto ns k && (match ns[k]? with | some n => nodB n k | none => true)
def predB (ns : List Nod) : Bool := decide (ns.length ≤ 24) && nodsUpto ns ns.length
theorem nodsUpto_iff {ns : List Nod} : ∀ {k : Nat}, nodsUpto ns k = true ↔ ∀ i, i < k → ∀ n, ns[i]? = some n → nodB n i = true
  | 0 => by simp [nodsUpto]
  | k + 1 => by
    rw [nodsUpto, Bool.and_eq_true, nodsUpto_iff]
    constructor
    · rintro ⟨h1, h2⟩ i hi n hn
      rcases Nat.lt_or_eq_of_le (Nat.le_of_lt_succ hi) with h | rfl
      · exact h1 i h n hn
      · rw [hn] at h2; exact h2
    · intro h
      refine ⟨fun i hi => h i (by omega), ?_⟩
      cases hk : ns[k]? with
      | none => rfl
      | some n => exact h k (by omega) n hk
theorem nodsUpto_bad {ns : List Nod} {k : Nat} {n : Nod} (hn : ns[k]? = some n) (h : nodB n k = false) : nodsUpto ns ns.length = false := by
  cases e : nodsUpto ns ns.length with
  | false => rfl
  | true =>
    have := nodsUpto_iff.1 e k (List.getElem?_eq_some_iff.1 hn).1 n hn
    rw [h] at this; cases this

/-- What a node lacks of a schema: an error's number, or 0. -/
def nodE (s : Sch) (n : Nod) : Int :=
  if n.kind ≠ 1 ∧ n.kind ≠ 2 then 0 else if idx (named n.col) s.cols < 0 then 1501
  else if n.kind = 1 ∧ n.v.kind ≠ (s.cols.getD (s.cols.findIdx (named n.col)) ⟨0, .empty, 0⟩).kind then 1502 else 0
def firstE (s : Sch) : List Nod → Int
  | [] => 0
  | n :: r => if nodE s n ≠ 0 then nodE s n else firstE s r
def checkE (ns : List Nod) (s : Sch) : Int := if predB ns = true ∧ mayB s = true then firstE s ns else 1500
theorem firstE_hit (s : Sch) : ∀ {ns : List Nod} {k : Nat} {n : Nod}, ns[k]? = some n → (∀ i, i < k → ∀ m, ns[i]? = some m → nodE s m = 0) → nodE s n ≠ 0 → firstE s ns = nodE s n
  | [], k, n, h, _, _ => by simp at h
  | x :: r, 0, n, h, _, hn => by simp at h; subst h; simp [firstE, hn]
  | x :: r, k + 1, n, h, ha, hn => by
    have h0 := ha 0 (by omega) x rfl
    rw [firstE, if_neg (by simp [h0])]
    exact firstE_hit s (by simpa using h) (fun i hi m hm => ha (i + 1) (by omega) m (by simpa using hm)) hn
theorem firstE_zero (s : Sch) : ∀ {ns : List Nod}, (∀ i, i < ns.length → ∀ m, ns[i]? = some m → nodE s m = 0) → firstE s ns = 0
  | [], _ => rfl
  | x :: r, h => by
    rw [firstE, if_neg (by simpa using h 0 (by simp) x rfl)]
    exact firstE_zero s fun i hi m hm => h (i + 1) (by simpa using hi) m (by simpa using hm)
theorem firstE_zero_iff (s : Sch) : ∀ {ns : List Nod}, firstE s ns = 0 ↔ ∀ n ∈ ns, nodE s n = 0
  | [] => by simp [firstE]
  | x :: r => by
    rw [firstE]
    by_cases h : nodE s x = 0
    · rw [if_neg (by simp [h]), firstE_zero_iff s]; simp [h]
    · rw [if_pos h]; simp [h]

/-- Has a row a value for each column, null or of its kind? -/
def cellOk (c : Col) (v : Val) : Bool := kindV v == 0 || kindV v == c.kind
def rowUpto (cs : List Col) (vs : List Val) : Nat → Bool
  | 0 => true
  | k + 1 => rowUpto cs vs k && (match cs[k]?, vs[k]? with | some c, some v => cellOk c v | _, _ => true)
def rowB (s : Sch) (vs : List Val) : Bool := decide (vs.length = s.cols.length) && rowUpto s.cols vs s.cols.length
theorem rowUpto_iff {cs : List Col} {vs : List Val} : ∀ {k : Nat}, rowUpto cs vs k = true ↔ ∀ i, i < k → ∀ c v, cs[i]? = some c → vs[i]? = some v → cellOk c v = true
  | 0 => by simp [rowUpto]
  | k + 1 => by
    rw [rowUpto, Bool.and_eq_true, rowUpto_iff]
    constructor
    · rintro ⟨h1, h2⟩ i hi c v hc hv
      rcases Nat.lt_or_eq_of_le (Nat.le_of_lt_succ hi) with h | rfl
      · exact h1 i h c v hc hv
      · rw [hc, hv] at h2; exact h2
    · intro h
      refine ⟨fun i hi => h i (by omega), ?_⟩
      cases hc : cs[k]? with
      | none => rfl
      | some c =>
        cases hv : vs[k]? with
        | none => rfl
        | some v => exact h k (by omega) c v hc hv
theorem rowUpto_bad {cs : List Col} {vs : List Val} {k : Nat} {c : Col} {v : Val} (hc : cs[k]? = some c) (hv : vs[k]? = some v) (h : cellOk c v = false) : rowUpto cs vs cs.length = false := by
  cases e : rowUpto cs vs cs.length with
  | false => rfl
  | true =>
    have := rowUpto_iff.1 e k (List.getElem?_eq_some_iff.1 hc).1 c v hc hv
    rw [h] at this; cases this

/-- A node's truth, of those ahead of it. -/
def stepT (s : Sch) (vs : List Val) (acc : List Int) (n : Nod) : Int :=
  if n.kind = 0 then 1 else if n.kind = 1 ∨ n.kind = 2 then leafT n (vs.getD (s.cols.findIdx (named n.col)) Val.zero)
  else if n.kind = 3 then joinT 3 (acc.getD n.l.toNat 0) (acc.getD n.l.toNat 0) else joinT n.kind (acc.getD n.l.toNat 0) (acc.getD n.r.toNat 0)
def evalT (s : Sch) (vs : List Val) (ns : List Nod) : List Int := ns.foldl (fun acc n => acc ++ [stepT s vs acc n]) []
def lastT (l : List Int) : Int := l.getLastD 1
def truthR (ns : List Nod) (s : Sch) (vs : List Val) : Int × Int :=
  if checkE ns s ≠ 0 then (0, checkE ns s) else if rowB s vs = true then (lastT (evalT s vs ns), 0) else (0, 1500)
theorem evalT_snoc (s : Sch) (vs : List Val) (ns : List Nod) (n : Nod) : evalT s vs (ns ++ [n]) = evalT s vs ns ++ [stepT s vs (evalT s vs ns) n] := by simp [evalT]
theorem evalT_len (s : Sch) (vs : List Val) (ns : List Nod) : (evalT s vs ns).length = ns.length := by
  have : ∀ (l : List Nod) (acc : List Int), (l.foldl (fun acc n => acc ++ [stepT s vs acc n]) acc).length = acc.length + l.length := by
    intro l
    induction l with
    | nil => simp
    | cons x r ih => intro acc; simp [ih]; omega
  simpa [evalT] using this ns []
theorem evalT_take (s : Sch) (vs : List Val) (ns : List Nod) (k : Nat) (n : Nod) (h : ns[k]? = some n) : evalT s vs (ns.take (k + 1)) = evalT s vs (ns.take k) ++ [stepT s vs (evalT s vs (ns.take k)) n] := by
  rw [List.take_add_one, h]
  exact evalT_snoc _ _ _ _
theorem stepT_tr (s : Sch) (vs : List Val) (acc : List Int) (n : Nod) : Tr (stepT s vs acc n) := by
  unfold stepT
  repeat' split
  all_goals first | exact leafT_tr _ _ | exact joinT_tr _ _ _ | simp [Tr]
theorem evalT_tr (s : Sch) (vs : List Val) (ns : List Nod) : ∀ x ∈ evalT s vs ns, Tr x := by
  have : ∀ (l : List Nod) (acc : List Int), (∀ x ∈ acc, Tr x) → ∀ x ∈ l.foldl (fun acc n => acc ++ [stepT s vs acc n]) acc, Tr x := by
    intro l
    induction l with
    | nil => intro acc h; simpa using h
    | cons x r ih =>
      intro acc h
      rw [List.foldl_cons]
      refine ih _ fun y hy => ?_
      rcases List.mem_append.1 hy with hy | hy
      · exact h y hy
      · simp at hy; subst hy; exact stepT_tr _ _ _ _
  exact this ns [] (by simp)
/-- The columns that a predicate names. -/
def asks (n : Nod) : Bool := n.kind == 1 || n.kind == 2
def colsStep (acc : List ByteArray) (n : Nod) : List ByteArray := if asks n && !acc.any (fun c => c.toList == n.col.toList) then acc ++ [n.col] else acc
def colsT (ns : List Nod) : List ByteArray := if predB ns then ns.foldl colsStep [] else []
end Go.Proofs.YtnphokhehacfnaaGreatDoor

namespace Go.Proofs.YtnphokhehacfnaaGreatDoor
open Go.RowKit

/-- The columns that may stand together. -/
def Wf (next : Int) (cols : List Col) : Prop := (∀ c ∈ cols, colOk next c = true) ∧ cols.Pairwise fun d c => clash c d = false
end Go.Proofs.YtnphokhehacfnaaGreatDoor

namespace Go.Proofs.YtnphokhehacfnaaGreatDoor
open Go.RowKit

/-- Is a value null, or of a kind, and not too long? -/
def fitsB (kind : Int) (v : Val) : Bool := kindV v == 0 || (kindV v == kind && decide ((clean v).s.size ≤ 64) && validB (clean v).s)
def colB (rows last : Int) (c : Col) (vs : List Val) : Bool := decide (last < c.id) && c.name.size == 0 && kindB c.kind && decide ((vs.length : Int) = rows) && vs.all (fitsB c.kind)
def colsB (rows : Int) : Int → List Col → List (List Val) → Bool
  | last, c :: cs, v :: vs => colB rows last c v && colsB rows c.id cs vs
  | _, _, _ => true
def fileB (rows : Int) (cols : List Col) (vals : List (List Val)) : Bool :=
  decide (0 ≤ rows) && decide (rows ≤ 4096) && decide (1 ≤ cols.length) && decide (cols.length ≤ 12) && decide (vals.length = cols.length) && colsB rows 0 cols vals
/-- The place of a column's Id among a file's. -/
def byId (id : Int) (o : Col) : Bool := o.id == id
def fromOk (fc : List Col) (c : Col) : Bool := if 0 ≤ idx (byId c.id) fc then (match fc[(idx (byId c.id) fc).toNat]? with | some o => o.kind == c.kind | none => false) else true
def fromT (fc : List Col) (cs : List Col) : List Int := cs.map fun c => idx (byId c.id) fc
def toCell (vals : List (List Val)) (i : Nat) (at_ : Int) : Val := if 0 ≤ at_ then clean ((vals.getD at_.toNat []).getD i Val.zero) else Val.zero
def toRow (vals : List (List Val)) (fr : List Int) (i : Nat) : List Val := fr.map (toCell vals i)
def toR (s : Sch) (rows : Int) (fc : List Col) (vals : List (List Val)) : List (List Val) × Int :=
  if mayB s = true ∧ fileB rows fc vals = true ∧ s.cols.all (fromOk fc) = true then ((List.range rows.toNat).map (toRow vals (fromT fc s.cols)), 0) else ([], 1400)

def pickFr (cols : List Col) (names : List ByteArray) : List Int := names.map fun nm => idx (named nm) cols
def pickRow (fr : List Int) (vs : List Val) : List Val := fr.map fun k => clean (vs.getD k.toNat Val.zero)
def pickR (s : Sch) (rs : List (List Val)) (names : List ByteArray) : List (List Val) × Int :=
  if mayB s = true ∧ names.all (fun nm => decide (0 ≤ idx (named nm) s.cols)) = true ∧ rs.all (fun vs => vs.length == s.cols.length) = true then (rs.map (pickRow (pickFr s.cols names)), 0) else ([], 1400)

theorem nextR_iv {s t : Sch} (h : nextR s = (t, 0)) : s = t ∧ mayB t = true := by
  unfold nextR at h
  split at h
  · rename_i hm
    simp at h
    subst h
    exact ⟨rfl, hm⟩
  · simp at h
theorem renameR_iv {s t : Sch} {nm to : ByteArray} (h : renameR s nm to = (t, 0)) : t.cols = setName s.cols (s.cols.findIdx (named nm)) to ∧ mayB t = true := by
  unfold renameR at h
  split at h
  · simp at h
  split at h
  · simp at h
  split at h
  · simp at h
  split at h
  · simp at h
  obtain ⟨rfl, hm⟩ := nextR_iv h
  exact ⟨rfl, hm⟩
theorem addR_iv {s t : Sch} {nm : ByteArray} {k : Int} (h : addR s nm k = (t, 0)) : t.cols = s.cols ++ [⟨s.next, nm, k⟩] ∧ mayB t = true := by
  unfold addR at h
  split at h
  · simp at h
  split at h
  · simp at h
  split at h
  · simp at h
  split at h
  · simp at h
  split at h
  · simp at h
  obtain ⟨rfl, hm⟩ := nextR_iv h
  exact ⟨rfl, hm⟩
/-- The highest Id of a file. -/
def lastIdT (cols : List Col) : Int := cols.foldl (fun m c => max m c.id) 0
end Go.Proofs.YtnphokhehacfnaaGreatDoor

