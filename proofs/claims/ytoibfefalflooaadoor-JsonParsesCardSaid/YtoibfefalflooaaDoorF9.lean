/-
  The document's parser: a value, whole; what it says is what the program's says.
-/
import Derived.Test.YtoibfefalflooaaDoorF8
import Derived.Test.YtoibfefalflooaaDoorJ2
namespace Go.Proofs.YtoibfefalflooaaDoor
open Go.RowKit

/-- A value as the document reads it. -/
def valD (s : ByteArray) : Nat → Nat → Except Int (J × Nat)
  | 0, i => if bA s i = 91 ∨ bA s i = 123 then .error 301 else leafD s i
  | d + 1, i => if bA s i = 91 then innP (valD s d) s false i else if bA s i = 123 then innP (valD s d) s true i else leafD s i
/-- The same, or form ahead of a byte that no value may stand before. -/
def Rel (s : ByteArray) (a b : Except Int (J × Nat)) : Prop := a = b ∨ (a = .error 300 ∧ ∃ j k, b = .ok (j, k) ∧ (bA s k = 46 ∨ bA s k = 101 ∨ bA s k = 69))
theorem dnum_other {s : ByteArray} {i c : Nat} (h : bA s i = c) (hc : c ≠ 45 ∧ isD c = false) : dnumP s i = none := dnum_not (by omega) (by rw [h]; exact hc.2)
theorem word_other {s : ByteArray} {i : Nat} {c : UInt8} {r : List UInt8} (h : bA s i ≠ c.toNat) : wordB s i (c :: r) = false := by
  cases hb : wordB s i (c :: r) with
  | false => rfl
  | true => exact absurd (word_head hb) h
theorem leaf_rel (s : ByteArray) (i : Nat) : Rel s (leafD s i) (leafP s i) := by
  by_cases h1 : bA s i = 110
  · left
    rw [leafD, leafP, if_pos h1]
    by_cases hb : wordB s i [110, 117, 108, 108] = true
    · rw [if_pos hb, if_pos hb]
    · rw [if_neg hb, if_neg hb, word_other (c := 116) (by rw [h1]; decide), word_other (c := 102) (by rw [h1]; decide), if_neg Bool.false_ne_true, if_neg Bool.false_ne_true, if_neg (by omega), dnum_other h1 (by decide)]
  by_cases h2 : bA s i = 116
  · left
    rw [leafD, leafP, if_neg h1, if_pos h2, word_other (c := 110) (by rw [h2]; decide), if_neg Bool.false_ne_true]
    by_cases hb : wordB s i [116, 114, 117, 101] = true
    · rw [if_pos hb, if_pos hb]
    · rw [if_neg hb, if_neg hb, word_other (c := 102) (by rw [h2]; decide), if_neg Bool.false_ne_true, if_neg (by omega), dnum_other h2 (by decide)]
  by_cases h3 : bA s i = 102
  · left
    rw [leafD, leafP, if_neg h1, if_neg h2, if_pos h3, word_other (c := 110) (by rw [h3]; decide), word_other (c := 116) (by rw [h3]; decide), if_neg Bool.false_ne_true, if_neg Bool.false_ne_true]
    by_cases hb : wordB s i [102, 97, 108, 115, 101] = true
    · rw [if_pos hb, if_pos hb]
    · rw [if_neg hb, if_neg hb, if_neg (by omega), dnum_other h3 (by decide)]
  have e0 : leafD s i = if bA s i = 34 then (match textP s i with | none => .error 300 | some (t, j) => .ok (.mk 3 false 0 t [] [], j)) else (match dnumP s i with | none => .error 300 | some (x, j) => .ok (.mk 2 false x ⟨#[]⟩ [] [], j)) := by
    rw [leafD, word_other (c := 110) h1, word_other (c := 116) h2, word_other (c := 102) h3]
    rfl
  by_cases h4 : bA s i = 34
  · left
    rw [e0, leafP, if_neg h1, if_neg h2, if_neg h3, if_pos h4, if_pos h4]
    cases textP s i <;> rfl
  have e1 : leafD s i = (match dnumP s i with | none => .error 300 | some (x, j) => .ok (.mk 2 false x ⟨#[]⟩ [] [], j)) := by rw [e0, if_neg h4]
  have e2 : leafP s i = (match numP s i with | none => .error 300 | some (x, j) => .ok (.mk 2 false x ⟨#[]⟩ [] [], j)) := by
    rw [leafP, if_neg h1, if_neg h2, if_neg h3, if_neg h4]
    cases numP s i <;> rfl
  rw [e1, e2, dnumP]
  cases hn : numP s i with
  | none => left; rfl
  | some p =>
    obtain ⟨x, k⟩ := p
    by_cases hp : bA s k = 46 ∨ bA s k = 101 ∨ bA s k = 69
    · right
      refine ⟨?_, _, _, rfl, hp⟩
      show (match (if bA s k = 46 ∨ bA s k = 101 ∨ bA s k = 69 then none else some (x, k)) with | none => _ | some (x, j) => _) = _
      rw [if_pos hp]
    · left
      show (match (if bA s k = 46 ∨ bA s k = 101 ∨ bA s k = 69 then none else some (x, k)) with | none => _ | some (x, j) => _) = _
      rw [if_neg hp]
theorem el_stop {val : Nat → Except Int (J × Nat)} {s : ByteArray} {obj : Bool} {f k : Nat} {l : List J} {ks : List ByteArray} (h : bA s k = 46 ∨ bA s k = 101 ∨ bA s k = 69) : elemsP val s obj f (whiteE s k) false l ks = .error 300 := by
  have hw : isW (bA s k) = false := by rcases h with h | h | h <;> rw [h] <;> rfl
  rw [white_no hw]
  cases f with
  | zero => rw [elemsP]
  | succ f => exact el_comma (by cases obj <;> simp <;> omega) (by omega)
theorem elems_rel {s : ByteArray} {v1 v2 : Nat → Except Int (J × Nat)} (hv : ∀ i, Rel s (v1 i) (v2 i)) (obj : Bool) : ∀ (f i : Nat) (fst : Bool) (l : List J) (ks : List ByteArray), elemsP v1 s obj f i fst l ks = elemsP v2 s obj f i fst l ks
  | 0, i, fst, l, ks => by rw [elemsP, elemsP]
  | f + 1, i, fst, l, ks => by
    by_cases he : bA s i = if obj then 125 else 93
    · rw [el_end he, el_end he]
    by_cases hq : fst = false ∧ bA s i ≠ 44
    · obtain ⟨rfl, hq⟩ := hq
      rw [el_comma he hq, el_comma he hq]
    have step : ∀ (i0 : Nat) (l : List J) (ks2 : List ByteArray), (match v1 i0 with | .error e => .error e | .ok (j, i4) => elemsP v1 s obj f (whiteE s i4) false (l ++ [j]) ks2) = (match v2 i0 with | .error e => (.error e : Except Int (List J × List ByteArray × Nat)) | .ok (j, i4) => elemsP v2 s obj f (whiteE s i4) false (l ++ [j]) ks2) := fun i0 l ks2 => by
      rcases hv i0 with h | ⟨h, j, k, h2, h3⟩
      · rw [h]
        cases v2 i0 with
        | error e => rfl
        | ok p => exact elems_rel hv obj f _ _ _ _
      · rw [h, h2]
        exact (el_stop h3).symm
    cases obj with
    | false =>
      rw [el_list he hq, el_list he hq]
      exact step _ _ _
    | true =>
      rw [el_obj he hq, el_obj he hq]
      cases ht : textP s (if fst = true then i else whiteE s (i + 1)) with
      | none => rfl
      | some p =>
        obtain ⟨q, i1⟩ := p
        show (if ks.contains q = true then _ else if bA s (whiteE s i1) ≠ 58 then _ else _) = (if ks.contains q = true then _ else if bA s (whiteE s i1) ≠ 58 then _ else _)
        by_cases hc : ks.contains q = true
        · rw [if_pos hc, if_pos hc]
        · rw [if_neg hc, if_neg hc]
          by_cases h58 : bA s (whiteE s i1) ≠ 58
          · rw [if_pos h58, if_pos h58]
          · rw [if_neg h58, if_neg h58]
            exact step _ _ _
theorem inn_rel {s : ByteArray} {v1 v2 : Nat → Except Int (J × Nat)} (hv : ∀ i, Rel s (v1 i) (v2 i)) (obj : Bool) (i : Nat) : innP v1 s obj i = innP v2 s obj i := by rw [innP, innP, elems_rel hv]
theorem val_rel (s : ByteArray) : ∀ d i, Rel s (valD s d i) (valP s d i)
  | 0, i => by
    rw [valD, valP]
    by_cases h : bA s i = 91 ∨ bA s i = 123
    · rw [if_pos h, if_pos h]; exact .inl rfl
    · rw [if_neg h, if_neg h]; exact leaf_rel s i
  | d + 1, i => by
    have hi := fun obj => inn_rel (val_rel s d) obj i
    rw [valD, valP]
    by_cases h1 : bA s i = 91
    · left
      rw [if_pos h1, if_pos (.inl h1), hi false, innP, decide_eq_false (show ¬ bA s i = 123 by omega), if_neg (show ¬ bA s i = 123 by omega)]
      rfl
    by_cases h2 : bA s i = 123
    · left
      rw [if_neg h1, if_pos h2, if_pos (.inr h2), hi true, innP, decide_eq_true h2, if_pos h2]
      rfl
    rw [if_neg h1, if_neg h2, if_neg (by omega)]
    exact leaf_rel s i
theorem valD_gt {s : ByteArray} {d i : Nat} {j : J} {k : Nat} (h : valD s d i = .ok (j, k)) : i < k := by
  rcases val_rel s d i with h1 | ⟨h1, _⟩
  · exact val_gt s d i j k (by rw [← h1]; exact h)
  · rw [h1] at h; cases h
theorem valD_err {s : ByteArray} {d i : Nat} {c : Int} (h : valD s d i = .error c) : 0 < c := by
  rcases val_rel s d i with h1 | ⟨h1, _⟩
  · have := val_err s d i c (by rw [← h1]; exact h); omega
  · rw [h1] at h; injection h with h; omega
/-- What the document's parser says of a value. -/
theorem dvalue_any (g : Nat) (s : ByteArray) (hs : s.size ≤ 65536) : ∀ d : Nat, d ≤ 16 → VALD g s (16 - (d : Int)) (valD s d)
  | 0, _ => fun i w h hi => by
    refine dval_of g s i _ w h hi (by omega) _ hs (fun hc => by rw [valD, if_neg (by omega)]) (fun h1 w' hp => ?_) (fun h1 w' hp => ?_)
    · rw [valD, if_pos (.inl h1)]
      exact dlist_deep g s i _ (by omega) w' hp hi
    · rw [valD, if_pos (.inr h1)]
      exact dobj_deep g s i _ (by omega) w' hp hi
  | d + 1, hd => fun i w h hi => by
    have IH := dvalue_any g s hs d (by omega)
    have hdd : (16 : Int) - ((d + 1 : Nat) : Int) + 1 = 16 - (d : Int) := by omega
    refine dval_of g s i _ w h hi (by omega) _ hs (fun hc => by rw [valD, if_neg hc.1, if_neg hc.2]) (fun h1 w' hp => ?_) (fun h1 w' hp => ?_)
    · rw [valD, if_pos h1, hdd]
      exact dlist_ok g s i _ (by omega) _ (fun _ _ _ h => valD_gt h) IH (fun _ _ h => valD_err h) w' hp (bA_lt (by omega)) hs
    · rw [valD, if_neg (by omega), if_pos h1, hdd]
      exact dobj_ok g s i _ (by omega) _ (fun _ _ _ h => valD_gt h) IH (fun _ _ h => valD_err h) w' hp (bA_lt (by omega)) hs
/-- The document's parse is the program's. -/
theorem parse_rel (s : ByteArray) : parseP s = if 65536 < s.size then (J.zero, 302) else match valD s 16 (whiteE s 0) with | .error e => (J.zero, e) | .ok (j, i) => if whiteE s i = s.size then (j, 0) else (J.zero, 300) := by
  rw [parseP]
  by_cases h : 65536 < s.size
  · rw [if_pos h, if_pos h]
  rw [if_neg h, if_neg h]
  rcases val_rel s 16 (whiteE s 0) with h1 | ⟨h1, j, k, h2, h3⟩
  · rw [h1]
    cases valP s 16 (whiteE s 0) with
    | error e => rfl
    | ok p => rfl
  · rw [h1, h2]
    have hw : isW (bA s k) = false := by rcases h3 with h | h | h <;> rw [h] <;> rfl
    have hk : k < s.size := bA_lt (by omega)
    show (if whiteE s k = s.size then _ else _) = _
    rw [white_no hw, if_neg (by omega)]
end Go.Proofs.YtoibfefalflooaaDoor
