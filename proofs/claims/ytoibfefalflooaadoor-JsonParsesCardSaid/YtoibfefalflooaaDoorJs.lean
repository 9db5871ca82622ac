/-
  A JSON value as a text: plain; and what of a tree can be read.
-/
import Derived.Test.YtoibfefalflooaaDoorJl
import Derived.Test.YtoibfefalflooaaDoorLsj
namespace Go.Proofs.YtoibfefalflooaaDoor
open Go.RowKit

/-- More text, if the whole is not too long. -/
def addE (out t : List UInt8) : Except Int (List UInt8) := if 65536 < out.length + t.length then .error 302 else .ok (out ++ t)
def andE (r : Except Int (List UInt8)) (f : List UInt8 → Except Int (List UInt8)) : Except Int (List UInt8) :=
  match r with
  | .error e => .error e
  | .ok o => f o
def hexD (n : Nat) : UInt8 := if n < 10 then UInt8.ofNat (48 + n) else UInt8.ofNat (87 + n)
/-- A byte of a text, as it is written. -/
def qB (c : UInt8) : List UInt8 :=
  if c.toNat = 34 ∨ c.toNat = 92 then [92, c]
  else if c.toNat = 8 then [92, 98]
  else if c.toNat = 12 then [92, 102]
  else if c.toNat = 10 then [92, 110]
  else if c.toNat = 13 then [92, 114]
  else if c.toNat = 9 then [92, 116]
  else if c.toNat < 32 then [92, 117, 48, 48, UInt8.ofNat (48 + c.toNat / 16), hexD (c.toNat % 16)]
  else [c]
def qBs : List UInt8 → List UInt8
  | [] => []
  | c :: r => qB c ++ qBs r
def quoteL (s : ByteArray) : List UInt8 := 34 :: (qBs s.data.toList ++ [34])
def textW (s : ByteArray) (out : List UInt8) : Except Int (List UInt8) := if validB s then addE out (quoteL s) else .error 300
/-- May an object's keys be, behind those that are seen? -/
def keysF : List ByteArray → List ByteArray → Bool
  | _, [] => true
  | seen, k :: r => !seen.contains k && validB k && keysF (seen ++ [k]) r
mutual
/-- A value's text behind out; so many lists and objects may still be opened. -/
def prV : J → Nat → List UInt8 → Except Int (List UInt8)
  | .mk k b n s l ks, d, out =>
    if k = 0 then addE out [110, 117, 108, 108]
    else if k = 1 then addE out (Go.Lib.formatBool b)
    else if k = 2 then addE out (Go.Lib.itoa n)
    else if k = 3 then textW s out
    else if k = 4 then
      (if d = 0 then .error 301 else andE (addE out [91]) fun o => andE (prL l (d - 1) false ks true o) fun o => addE o [93])
    else if k = 5 then
      (if d = 0 then .error 301 else if ks.length = l.length ∧ keysF [] ks = true then andE (addE out [123]) fun o => andE (prL l (d - 1) true ks true o) fun o => addE o [125] else .error 300)
    else .error 300
def prL : List J → Nat → Bool → List ByteArray → Bool → List UInt8 → Except Int (List UInt8)
  | [], _, _, _, _, out => .ok out
  | j :: r, d, obj, ks, fst, out =>
    andE (if fst then .ok out else addE out [44]) fun o1 =>
    andE (if obj then andE (textW (ks.headD ⟨#[]⟩) o1) fun o => addE o [58] else .ok o1) fun o2 =>
    andE (prV j d o2) fun o3 => prL r d obj ks.tail false o3
end
def printP (j : J) : ByteArray × Int :=
  match prV j 16 [] with
  | .error e => (⟨#[]⟩, e)
  | .ok o => (ofL o, 0)

theorem qB_len (c : UInt8) : 1 ≤ (qB c).length ∧ (qB c).length ≤ 6 := by
  unfold qB
  repeat' split
  all_goals simp
theorem qBs_app (a b : List UInt8) : qBs (a ++ b) = qBs a ++ qBs b := by
  induction a with
  | nil => rfl
  | cons c r ih => rw [List.cons_append, qBs, ih, qBs, List.append_assoc]
theorem qBs_take {l : List UInt8} {i : Nat} {c : UInt8} (h : l[i]? = some c) : qBs (l.take (i + 1)) = qBs (l.take i) ++ qB c := by
  rw [List.take_add_one, h, qBs_app]
  simp [qBs]
theorem qBs_le (l : List UInt8) (i : Nat) : (qBs (l.take i)).length ≤ (qBs l).length := by
  have : qBs l = qBs (l.take i) ++ qBs (l.drop i) := by rw [← qBs_app, List.take_append_drop]
  rw [this, List.length_append]
  omega
theorem addE_long {out t : List UInt8} (h : 65536 < out.length + t.length) : addE out t = .error 302 := by rw [addE, if_pos h]
theorem addE_ok {out t : List UInt8} (h : ¬ 65536 < out.length + t.length) : addE out t = .ok (out ++ t) := by rw [addE, if_neg h]
theorem addE_err {out t : List UInt8} {c : Int} (h : addE out t = .error c) : c = 302 := by
  unfold addE at h
  split at h
  · injection h with h; exact h.symm
  · cases h

mutual
/-- A tree that can be read, of numbers that may be. -/
def RdT (w : World) : T → Prop
  | .mk k _ n s A _ l AK _ ks => SlAt w w.heap.size 6 A (l.map T.cells) ∧ SlAt w w.heap.size 1 AK (strCells ks) ∧ (l.length ≤ 1599289640401 ∧ ks.length ≤ 8796093022208) ∧ ((-9223372036854775808 ≤ k ∧ k ≤ 9223372036854775807) ∧ -9223372036854775808 ≤ n ∧ n ≤ 9223372036854775807) ∧ s.size ≤ maxLen ∧ (∀ q ∈ ks, q.size ≤ maxLen) ∧ RdTs w l
def RdTs (w : World) : List T → Prop
  | [] => True
  | t :: r => RdT w t ∧ RdTs w r
end
mutual
theorem RdT.fut {w w' : World} [h : Fut w w'] : ∀ {t : T}, RdT w t → RdT w' t
  | .mk _ _ _ _ A c l AK cK ks, k => by
    rw [RdT] at k ⊢
    exact ⟨k.1.fut, k.2.1.fut, k.2.2.1, k.2.2.2.1, k.2.2.2.2.1, k.2.2.2.2.2.1, RdTs.fut k.2.2.2.2.2.2⟩
theorem RdTs.fut {w w' : World} [h : Fut w w'] : ∀ {l : List T}, RdTs w l → RdTs w' l
  | [], _ => by rw [RdTs]; trivial
  | t :: r, k => by rw [RdTs] at k ⊢; exact ⟨RdT.fut k.1, RdTs.fut k.2⟩
end
theorem RdTs.get {w : World} : ∀ {l : List T} {i : Nat} {t : T}, RdTs w l → l[i]? = some t → RdT w t
  | [], i, t, _, h => by simp at h
  | x :: r, 0, t, k, h => by rw [RdTs] at k; simp at h; subst h; exact k.1
  | x :: r, i + 1, t, k, h => by rw [RdTs] at k; exact RdTs.get k.2 (by simpa using h)
/-- What the printer has. -/
def PrOut (w : World) (g : Nat) (out : List UInt8) : Prop :=
  ∃ (A : Option Addr) (n c : Nat), Blk w g 61 [.slice A n c] ∧ Own w (g + 1) 5 1 (.slice A n c) (byteCells out) ∧ out.length = n ∧ n ≤ 65536
theorem PrOut.fut {w w' : World} {g : Nat} {out : List UInt8} (h : PrOut w g out) [k : Fut w w'] : PrOut w' g out :=
  let ⟨A, n, c, h1, h2, h3⟩ := h
  ⟨A, n, c, h1.fut, h2.fut, h3⟩
theorem PrOut.lt {w : World} {g : Nat} {out : List UInt8} (h : PrOut w g out) : g < w.heap.size := let ⟨_, _, _, h1, _⟩ := h; h1.lt
theorem PrOut.le {w : World} {g : Nat} {out : List UInt8} (h : PrOut w g out) : out.length ≤ 65536 := let ⟨_, _, _, _, _, h3, h4⟩ := h; by omega
/-- How a writing ends. -/
def PrR (g : Nat) (r : Except Int (List UInt8)) (e : Ending) (w' : World) : Prop :=
  match r with
  | .error c => e = .panicked [{ v := fault c, recovered := false }]
  | .ok o => e = .returned (.tuple #[]) ∧ PrOut w' g o
end Go.Proofs.YtoibfefalflooaaDoor
