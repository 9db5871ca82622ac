/-
  What is parsed may be printed: plain.
-/
import Derived.Test.YtoibfefalflooaaDoorJs
import Derived.Test.YtoibfefalflooaaDoorJo
namespace Go.Proofs.YtoibfefalflooaaDoor
open Go.RowKit

mutual
/-- Numbers and lengths that may be. -/
def FineJ : J → Prop
  | .mk k _ n s l ks => (l.length ≤ 1599289640401 ∧ ks.length ≤ 8796093022208) ∧ ((-9223372036854775808 ≤ k ∧ k ≤ 9223372036854775807) ∧ -9223372036854775808 ≤ n ∧ n ≤ 9223372036854775807) ∧ s.size ≤ maxLen ∧ (∀ q ∈ ks, q.size ≤ maxLen) ∧ FineJs l
def FineJs : List J → Prop
  | [] => True
  | t :: r => FineJ t ∧ FineJs r
end
theorem FineJs.app : ∀ {l : List J} {j : J}, FineJs l → FineJ j → FineJs (l ++ [j])
  | [], j, _, h => by rw [List.nil_append, FineJs]; exact ⟨h, by rw [FineJs]; trivial⟩
  | x :: r, j, h, k => by rw [FineJs] at h; rw [List.cons_append, FineJs]; exact ⟨h.1, FineJs.app h.2 k⟩
theorem fine_zero : FineJ J.zero := by
  unfold J.zero
  rw [FineJ]
  exact ⟨by decide, ⟨by decide, by decide⟩, by decide, fun q hq => (by cases hq), (by rw [FineJs]; trivial)⟩
theorem fine_leaf {k n : Int} {b : Bool} {s : ByteArray} (hk : 0 ≤ k ∧ k ≤ 5) (hn : -9223372036854775808 ≤ n ∧ n ≤ 9223372036854775807) (hs : s.size ≤ maxLen) : FineJ (.mk k b n s [] []) := by
  rw [FineJ]
  exact ⟨by decide, ⟨by omega, hn⟩, hs, fun q hq => (by cases hq), (by rw [FineJs]; trivial)⟩
mutual
theorem TAt.rd {w : World} {ok : Nat → Prop} : ∀ {t : T}, TAt w ok t → FineJ t.j → RdT w t
  | .mk _ _ _ _ A c l AK cK ks, h, k => by
    rw [TAt] at h
    rw [T.j, FineJ] at k
    rw [RdT]
    have hl : (T.js l).length = l.length := by rw [js_map, List.length_map]
    rw [hl] at k
    exact ⟨h.1.sl (tree_fit _).len, h.2.1.sl (keys_fit _).len, k.1, k.2.1, k.2.2.1, k.2.2.2.1, TAts.rd h.2.2.2.2 k.2.2.2.2⟩
theorem TAts.rd {w : World} {ok : Nat → Prop} : ∀ {l : List T}, TAts w ok l → FineJs (T.js l) → RdTs w l
  | [], _, _ => by rw [RdTs]; trivial
  | t :: r, h, k => by rw [TAts] at h; rw [T.js, FineJs] at k; rw [RdTs]; exact ⟨TAt.rd h.1 k.1, TAts.rd h.2 k.2⟩
end
theorem numE_bd {m : Bool} {i1 c1 x i2 k : Nat} {v : Int} (h : numE m i1 c1 x i2 = some (v, k)) : -9223372036854775808 ≤ v ∧ v ≤ 9223372036854775807 := by
  unfold numE at h
  split at h
  · cases h
  · split at h
    · injection h with h; injection h with h1 h2; omega
    · split at h
      · injection h with h; injection h with h1 h2; omega
      · cases h
theorem num_bd {s : ByteArray} {i k : Nat} {v : Int} (h : numP s i = some (v, k)) : -9223372036854775808 ≤ v ∧ v ≤ 9223372036854775807 := by
  unfold numP at h
  split at h
  · split at h
    · cases h
    · exact numE_bd h
  · split at h
    · cases h
    · exact numE_bd h
theorem leaf_fine {s : ByteArray} {i k : Nat} {j : J} (hs : s.size ≤ 65536) (h : leafP s i = .ok (j, k)) : FineJ j := by
  unfold leafP at h
  split at h
  · split at h
    · injection h with h; injection h with h1 h2; rw [← h1]; exact fine_zero
    · cases h
  · split at h
    · split at h
      · injection h with h; injection h with h1 h2; rw [← h1]; exact fine_leaf (by decide) (by decide) (by decide)
      · cases h
    · split at h
      · split at h
        · injection h with h; injection h with h1 h2; rw [← h1]; exact fine_leaf (by decide) (by decide) (by decide)
        · cases h
      · split at h
        · split at h
          · cases h
          · rename_i t k2 ht
            injection h with h; injection h with h1 h2
            rw [← h1]
            have := text_le ht
            exact fine_leaf (by decide) (by decide) (by simp only [maxLen]; omega)
        · split at h
          · cases h
          · rename_i x k2 hx
            injection h with h; injection h with h1 h2
            rw [← h1]
            exact fine_leaf (by decide) (num_bd hx) (by decide)
theorem elems_fine {s : ByteArray} (hs : s.size ≤ 65536) {val : Nat → Except Int (J × Nat)} (hv : ∀ i j k, val i = .ok (j, k) → FineJ j) (obj : Bool) : ∀ (f i : Nat) (fst : Bool) (l : List J) (ks : List ByteArray) {l2 : List J} {ks2 : List ByteArray} {k : Nat}, elemsP val s obj f i fst l ks = .ok (l2, ks2, k) →
    FineJs l → (∀ q ∈ ks, q.size ≤ maxLen) → FineJs l2 ∧ (∀ q ∈ ks2, q.size ≤ maxLen) ∧ l2.length ≤ l.length + f ∧ ks2.length ≤ ks.length + f
  | 0, i, fst, l, ks, l2, ks2, k, h => by rw [elemsP] at h; cases h
  | f + 1, i, fst, l, ks, l2, ks2, k, h => fun hl hk => by
    by_cases he : bA s i = if obj then 125 else 93
    · rw [el_end he] at h
      injection h with h; injection h with h1 h2; injection h2 with h2 h3
      rw [← h1, ← h2]
      exact ⟨hl, hk, by omega, by omega⟩
    by_cases hq : fst = false ∧ bA s i ≠ 44
    · obtain ⟨rfl, hq⟩ := hq
      rw [el_comma he hq] at h
      cases h
    cases obj with
    | false =>
      rw [el_list he hq] at h
      generalize (if fst = true then i else whiteE s (i + 1)) = i0 at h
      cases hd : val i0 with
      | error e => rw [hd] at h; cases h
      | ok p =>
        obtain ⟨j, i4⟩ := p
        rw [hd] at h
        obtain ⟨r1, r2, r3, r4⟩ := elems_fine hs hv false f _ _ _ _ h (hl.app (hv _ _ _ hd)) hk
        rw [List.length_append] at r3
        simp only [List.length_cons, List.length_nil] at r3
        exact ⟨r1, r2, by omega, by omega⟩
    | true =>
      rw [el_obj he hq] at h
      generalize (if fst = true then i else whiteE s (i + 1)) = i0 at h
      cases ht : textP s i0 with
      | none => rw [ht] at h; cases h
      | some p =>
        obtain ⟨q, i1⟩ := p
        rw [ht] at h
        have h1 := text_le ht
        simp only [] at h
        split at h
        · cases h
        · split at h
          · cases h
          · cases hd : val (whiteE s (whiteE s i1 + 1)) with
            | error e => rw [hd] at h; cases h
            | ok p =>
              obtain ⟨j, i4⟩ := p
              rw [hd] at h
              obtain ⟨r1, r2, r3, r4⟩ := elems_fine hs hv true f _ _ _ _ h (hl.app (hv _ _ _ hd)) (fun x hx => by
                rcases List.mem_append.1 hx with hx | hx
                · exact hk x hx
                · rw [List.mem_singleton] at hx; subst hx; simp only [maxLen]; omega)
              rw [List.length_append] at r3 r4
              simp only [List.length_cons, List.length_nil] at r3 r4
              exact ⟨r1, r2, by omega, by omega⟩
theorem val_fine {s : ByteArray} (hs : s.size ≤ 65536) : ∀ (d i : Nat) (j : J) (k : Nat), valP s d i = .ok (j, k) → FineJ j
  | 0, i, j, k, h => by
    rw [valP] at h
    split at h
    · cases h
    · exact leaf_fine hs h
  | d + 1, i, j, k, h => by
    rw [valP] at h
    split at h
    · split at h
      · cases h
      · rename_i l2 ks2 k2 he
        injection h with h; injection h with h1 h2
        obtain ⟨r1, r2, r3, r4⟩ := elems_fine hs (val_fine hs d) _ _ _ _ _ _ he (by rw [FineJs]; trivial) (fun q hq => by cases hq)
        simp only [List.length_nil] at r3 r4
        rw [← h1, FineJ]
        exact ⟨⟨by omega, by omega⟩, ⟨by split <;> omega, by omega⟩, by decide, r2, r1⟩
    · exact leaf_fine hs h
/-- What Parse says may be printed. -/
theorem parse_fine (s : ByteArray) : FineJ (parseP s).1 := by
  unfold parseP
  split
  · exact fine_zero
  · split
    · exact fine_zero
    · rename_i h
      split
      · exact val_fine (by omega) _ _ _ _ h
      · exact fine_zero
theorem elems_err {s : ByteArray} {val : Nat → Except Int (J × Nat)} (hv : ∀ i e, val i = .error e → e = 300 ∨ e = 301) (obj : Bool) : ∀ (f i : Nat) (fst : Bool) (l : List J) (ks : List ByteArray) {e : Int}, elemsP val s obj f i fst l ks = .error e → e = 300 ∨ e = 301
  | 0, i, fst, l, ks, e, h => by rw [elemsP] at h; injection h with h; exact .inl h.symm
  | f + 1, i, fst, l, ks, e, h => by
    by_cases he : bA s i = if obj then 125 else 93
    · rw [el_end he] at h; cases h
    by_cases hq : fst = false ∧ bA s i ≠ 44
    · obtain ⟨rfl, hq⟩ := hq
      rw [el_comma he hq] at h
      injection h with h; exact .inl h.symm
    cases obj with
    | false =>
      rw [el_list he hq] at h
      generalize (if fst = true then i else whiteE s (i + 1)) = i0 at h
      cases hd : val i0 with
      | error e2 => rw [hd] at h; injection h with h; subst h; exact hv _ _ hd
      | ok p =>
        obtain ⟨j, i4⟩ := p
        rw [hd] at h
        exact elems_err hv false f _ _ _ _ h
    | true =>
      rw [el_obj he hq] at h
      generalize (if fst = true then i else whiteE s (i + 1)) = i0 at h
      cases ht : textP s i0 with
      | none => rw [ht] at h; injection h with h; exact .inl h.symm
      | some p =>
        obtain ⟨q, i1⟩ := p
        rw [ht] at h
        simp only [] at h
        split at h
        · injection h with h; exact .inl h.symm
        · split at h
          · injection h with h; exact .inl h.symm
          · cases hd : val (whiteE s (whiteE s i1 + 1)) with
            | error e2 => rw [hd] at h; injection h with h; subst h; exact hv _ _ hd
            | ok p =>
              obtain ⟨j, i4⟩ := p
              rw [hd] at h
              exact elems_err hv true f _ _ _ _ h
theorem leaf_err {s : ByteArray} {i : Nat} {e : Int} (h : leafP s i = .error e) : e = 300 := by
  unfold leafP at h
  repeat' split at h
  all_goals first | (injection h with h; exact h.symm) | (cases h; done)
theorem val_err (s : ByteArray) : ∀ (d i : Nat) (e : Int), valP s d i = .error e → e = 300 ∨ e = 301
  | 0, i, e, h => by
    rw [valP] at h
    split at h
    · injection h with h; exact .inr h.symm
    · exact .inl (leaf_err h)
  | d + 1, i, e, h => by
    rw [valP] at h
    split at h
    · split at h
      · rename_i he
        injection h with h
        subst h
        exact elems_err (val_err s d) _ _ _ _ _ _ he
      · cases h
    · exact .inl (leaf_err h)
end Go.Proofs.YtoibfefalflooaaDoor
