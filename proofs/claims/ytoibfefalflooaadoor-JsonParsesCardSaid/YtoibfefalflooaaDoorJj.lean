/-
  The keys that have been seen: a map of texts to truths.
-/
import Derived.Test.YtoibfefalflooaaDoorBl
import Derived.Maps.Own
import Derived.Maps.Views
import Derived.StringKeys
namespace Go.Proofs.YtoibfefalflooaaDoor
open Go.RowKit Go.Maps Go.WideMaps

theorem ba_beq (a b : ByteArray) : (a == b) = decide (a = b) := by
  obtain ⟨x⟩ := a
  obtain ⟨y⟩ := b
  show (x == y) = _
  by_cases h : x = y
  · subst h; simp
  · simp [h]
instance : LawfulBEq ByteArray where
  eq_of_beq := fun {a b} h => by rw [ba_beq] at h; exact of_decide_eq_true h
  rfl := fun {a} => by rw [ba_beq]; exact decide_eq_true rfl
noncomputable abbrev SeenE := plainElem (H := Unit) Tryd.prog 4
/-- The map in block m holds the keys ks, each with true; at most n. -/
def Seen (w : World) (m n : Nat) (ks : List ByteArray) : Prop :=
  ∃ D : DataW Unit, w.ownsMap Tryd.prog 9 SeenE m n D ∧ ∀ k : ByteArray, D.atKey (.string k.data.toList) (.lit (.bool false)) = .lit (.bool (ks.contains k))
theorem Seen.made (w : World) : Seen (w.alloc (.map #[] 0)) w.heap.size 0 [] :=
  ⟨.map [], World.ownsMap_made w _ _ _, fun k => by rfl⟩
theorem Seen.kept {w w' : World} {m n : Nat} {ks : List ByteArray} {row : Option Nat} (h : Seen w m n ks) (hg : w.grownBy w' row) (hne : some m ≠ row) : Seen w' m n ks :=
  let ⟨D, h1, h2⟩ := h
  ⟨D, h1.kept hg hne, h2⟩
theorem Seen.lt {w : World} {m n : Nat} {ks : List ByteArray} (h : Seen w m n ks) : m < w.heap.size := let ⟨_, h1, _⟩ := h; h1.lt
theorem Seen.fut {w w' : World} {m n : Nat} {ks : List ByteArray} (h : Seen w m n ks) [k : Fut w w'] : Seen w' m n ks :=
  let ⟨D, ⟨es, clock, hb, F, hs, hD⟩, h2⟩ := h
  ⟨D, ⟨es, clock, (k.below.block m (Array.getElem?_eq_some_iff.1 hb).1).trans hb, F, hs, hD⟩, h2⟩
theorem Seen.look {w : World} {m n : Nat} {ks : List ByteArray} (h : Seen w m n ks) (k : ByteArray) (hk : k.size ≤ maxLen) :
    (Instr.lookup 84 (.map (some m)) (.string k) false).run Tryd.prog w = .ok (.bool (ks.contains k)) w := by
  obtain ⟨D, h1, h2⟩ := h
  obtain ⟨v, ps, hrun, hv⟩ := h1.lookup (t := 84) (e := 4) (string_keyed Tryd.underlying9) Tryd.underlying84 (z := .bool false) (by kernel_rfl) (plainElem_bool Tryd.underlying4 false) (keyOf_string_mk Tryd.underlying9 hk)
  rw [h2 k] at hv
  unfold SeenE plainElem at hv
  rw [show Tryd.prog.underlying 4 = some .bool from Tryd.underlying4] at hv
  cases v <;> simp at hv
  obtain ⟨rfl, _⟩ := hv
  rw [hrun, List.contains_eq_mem]
theorem seen_update {w : World} {m n : Nat} {ks : List ByteArray} (h : Seen w m n ks) (k : ByteArray) (hk : k.size ≤ maxLen) (hn : n < maxLen) :
    ∃ w', (Instr.mapUpdate 84 (.map (some m)) (.string k) (.bool true)).run Tryd.prog w = .ok () w' ∧ Seen w' m (n + 1) (ks ++ [k]) ∧ w.grownBy w' (some m) := by
  obtain ⟨D, h1, h2⟩ := h
  have hD : IsMap D := by obtain ⟨es, clock, hb, F, hs, hD⟩ := h1; exact ⟨_, hD⟩
  obtain ⟨w', hrun, h3, h4⟩ := h1.update (t := 84) (e := 4) (string_keyed Tryd.underlying9) Tryd.underlying84 hn (key := .string k) (val := .bool true) (keyOf_string_mk Tryd.underlying9 hk) (plainElem_bool Tryd.underlying4 true)
  refine ⟨w', hrun, ⟨_, h3, fun q => ?_⟩, h4⟩
  by_cases hq : q = k
  · rw [hq]
    rw [atKey_put_same hD ((string_keyed Tryd.underlying9).key (keyOf_string_mk Tryd.underlying9 hk))]
    rw [List.contains_append]
    have : ([k] : List ByteArray).contains k = true := by simp
    rw [this, Bool.or_true]
  · rw [atKey_put_other (fun e => hq (ByteArray.ext (Array.toList_inj.1 (Lit.string.inj e)))), h2]
    rw [List.contains_append]
    have : ([k] : List ByteArray).contains q = false := by simp [hq]
    rw [this, Bool.or_false]
theorem wpList_seen {w : World} {ops : Array Oper} {rest : List Oper} {o : Oper} {a : Act} {Q : Exit → Act → World → Prop} (hg : o.guard = none) (mo x v : Operand) (hop : o.op = Op.mapUpdate 84 mo x v)
    {m n : Nat} {ks : List ByteArray} {k : ByteArray} (hm : a.eval mo = .map (some m)) (hx : a.eval x = .string k) (hv : a.eval v = .bool true) (h : Seen w m n ks) (hk : k.size ≤ maxLen) (hn : n < maxLen)
    (hK : ∀ w', Seen w' m (n + 1) (ks ++ [k]) → w.grownBy w' (some m) → wpList Tryd.prog ops Q rest (a.put o.dst undef) w') : wpList Tryd.prog ops Q (o :: rest) a w := by
  refine wpList_plain hg fun K' hK' => ?_
  obtain ⟨w', hrun, r1, r2⟩ := seen_update h k hk hn
  unfold Oper.wp
  simp [execOp, hop, hm, hx, hv, hrun, Result.andThen]
  exact hK' _ _ (hK w' r1 r2)
end Go.Proofs.YtoibfefalflooaaDoor
