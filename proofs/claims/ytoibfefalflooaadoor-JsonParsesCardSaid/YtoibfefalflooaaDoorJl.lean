/-
  Lists and objects: an append that tells its block; how far a parse goes.
-/
import Derived.Test.YtoibfefalflooaaDoorJk
namespace Go.Proofs.YtoibfefalflooaaDoor
open Go.RowKit

theorem eiJ : EI Tryd.prog 22 25 6 88 :=
  ⟨Tryd.underlying22, info_parts (show (Tryd.prog.info? 25).map (fun i => (i.zero, i.size, i.bytes)) = some (some (.agg #[.int .i64 0, .bool false, .int .i64 0, .string ⟨#[]⟩, .slice none 0 0, .slice none 0 0]), 6, 88) by kernel_rfl) |>.elim fun i h => ⟨i, _, h.1, h.2.1, h.2.2.1, h.2.2.2, rfl⟩, by decide, by decide⟩
theorem eiK : EI Tryd.prog 23 9 1 16 :=
  ⟨Tryd.underlying23, info_parts (show (Tryd.prog.info? 9).map (fun i => (i.zero, i.size, i.bytes)) = some (some (.string ⟨#[]⟩), 1, 16) by kernel_rfl) |>.elim fun i h => ⟨i, _, h.1, h.2.1, h.2.2.1, h.2.2.2, rfl⟩, by decide, by decide⟩
theorem tree_fit (l : List T) : Fit 6 (l.map T.cells) := Fit.map (f := T.cells) (fun t => ⟨by cases t; rfl, fun u hu => by
  cases t
  simp [T.cells] at hu
  rcases hu with rfl | rfl | rfl | rfl | rfl | rfl <;> rfl⟩) l
theorem keys_fit (l : List ByteArray) : Fit 1 (strCells l) := Fit.map (f := fun s : ByteArray => [Value.string s]) (fun s => ⟨rfl, fun u hu => by simp at hu; rw [hu]; rfl⟩) l
section
variable {P : Program} {w : World}
theorem wp_append_slB {o : Oper} {a : Act} {K : Act → World → Prop} {Q : Exit → Act → World → Prop} (s x : Operand) (t : TypeId)
    (ho : o.op = .call { callee := .builtin .append, args := #[s, x], argTypes := #[t, t] }) {e : TypeId} {size bytes : Nat} (hei : EI P t e size bytes)
    {base : Nat} {v : Value} {xs : List (List Value)} (hs : a.eval s = v) (hown : Own w base e size v xs) (hxs : Fit size xs)
    {ad : Addr} {c : Nat} {y : List Value} (hx : a.eval x = .slice (some ad) 1 c) (hr : ∀ j u, y[j]? = some u → w.cell? (ad.add j) = some u) (hys : Fit size [y])
    (hlen : (xs.length + 1) * bytes ≤ 140737488355328) (hbase : base ≤ w.heap.size)
    {N : Nat} (hN : xs.length + 1 = N) (h : ∀ (A' : Option Addr) (cap' : Nat) w', Own w' base e size (.slice A' N cap') (xs ++ [y]) → w.grownBy w' v.ownBlock → Below base w w' → (ob A' = v.ownBlock ∨ ob A' = some w.heap.size) → K (a.put o.dst (.slice A' N cap')) w') : Oper.wp P o a w K Q := by
  obtain ⟨ht, ⟨i, z, hi, hz, hsize, hby, hzs⟩, hsz, hbz⟩ := id hei
  have hle : xs.length + 1 ≤ 140737488355328 := Nat.le_trans (Nat.le_mul_of_pos_right _ hbz) hlen
  have hyl : y.length = 1 * size := by rw [Nat.one_mul]; exact hys.len y (by simp)
  obtain ⟨v', w', hrun, h2, h3, _, h5⟩ := run_append_own_at (P := P) w base t o.type e i z size bytes ht hi hz hsize hby hzs hsz v xs.length xs.flatten hown ad 1 c y hyl hr (fun u hu => hys.one u (by simpa using hu)) (by simp only [maxLen]; omega) hlen hbase
  unfold Oper.wp execOp
  simp only [ho, resolve, invoke, builtin, Sem.run_bind, Sem.run_pure, Result.andThen_ok, List.map_toArray, List.map_cons, List.map_nil, hs, hx, hrun]
  have h2b : Own w' base e size v' (xs ++ [y]) := by
    unfold Own
    rw [List.length_append, List.flatten_append]
    simpa using h2
  obtain ⟨A', cap', hv, hc1, hc2, _⟩ := h2b.slice (n := N) (hxs.app hys).len (by rw [List.length_append]; exact hN)
  subst hv
  exact h A' cap' w' h2b h3 (below_of_grown hown h3 hbase) (by rw [← ob_eq A' N cap']; exact h5)
theorem wpList_append_slB {ops : Array Oper} {rest : List Oper} {o : Oper} {a : Act} {Q : Exit → Act → World → Prop} (hgd : o.guard = none) (s x : Operand) (t : TypeId)
    (ho : o.op = .call { callee := .builtin .append, args := #[s, x], argTypes := #[t, t] }) {e : TypeId} {size bytes : Nat} (hei : EI P t e size bytes)
    {base : Nat} {v : Value} {xs : List (List Value)} (hs : a.eval s = v) (hown : Own w base e size v xs) (hxs : Fit size xs)
    {ad : Addr} {c : Nat} {y : List Value} (hx : a.eval x = .slice (some ad) 1 c) (hr : ∀ j u, y[j]? = some u → w.cell? (ad.add j) = some u) (hys : Fit size [y])
    (hlen : (xs.length + 1) * bytes ≤ 140737488355328) (hbase : base ≤ w.heap.size)
    {N : Nat} (hN : xs.length + 1 = N) (h : ∀ (A' : Option Addr) (cap' : Nat) w', Own w' base e size (.slice A' N cap') (xs ++ [y]) → w.grownBy w' v.ownBlock → Below base w w' → (ob A' = v.ownBlock ∨ ob A' = some w.heap.size) → wpList P ops Q rest (a.put o.dst (.slice A' N cap')) w') : wpList P ops Q (o :: rest) a w :=
  wpList_plain hgd fun _ hK => wp_append_slB s x t ho hei hs hown hxs hx hr hys hlen hbase hN fun A' cap' w' h2 h3 h4 h5 => hK _ _ (h A' cap' w' h2 h3 h4 h5)
theorem step_append_slB {ops : Array Oper} {o : Oper} {a : Act} {K : Act → World → Prop} {Q : Exit → Act → World → Prop} {E : Prop} (hgd : o.guard = none) (s x : Operand) (t : TypeId)
    (ho : o.op = .call { callee := .builtin .append, args := #[s, x], argTypes := #[t, t] }) {e : TypeId} {size bytes : Nat} (hei : EI P t e size bytes)
    {base : Nat} {v : Value} {xs : List (List Value)} (hs : a.eval s = v) (hown : Own w base e size v xs) (hxs : Fit size xs)
    {ad : Addr} {c : Nat} {y : List Value} (hx : a.eval x = .slice (some ad) 1 c) (hr : ∀ j u, y[j]? = some u → w.cell? (ad.add j) = some u) (hys : Fit size [y])
    (hlen : (xs.length + 1) * bytes ≤ 140737488355328) (hbase : base ≤ w.heap.size)
    {N : Nat} (hN : xs.length + 1 = N) (h : ∀ (A' : Option Addr) (cap' : Nat) w', Own w' base e size (.slice A' N cap') (xs ++ [y]) → w.grownBy w' v.ownBlock → Below base w w' → (ob A' = v.ownBlock ∨ ob A' = some w.heap.size) → K (a.put o.dst (.slice A' N cap')) w') :
    if Region.wanted o (yielded ops a.tmps) = true then Oper.wp P o a w K Q else E := by
  have hw : Region.wanted o (yielded ops a.tmps) = true := by simp [Region.wanted, hgd]
  rw [if_pos hw]
  exact wp_append_slB s x t ho hei hs hown hxs hx hr hys hlen hbase hN h
end
theorem cells_at (w : World) (cs : List Value) (t : TypeId) : ∀ j u, cs[j]? = some u → (w.alloc (.cells cs.toArray t)).cell? ((⟨w.heap.size, 0, none⟩ : Addr).add j) = some u := by
  intro j u hu
  have h := (Blk.new w cs t).at0 j u hu
  rw [Go.WideShapes.add_plain]
  exact h

/-! ### How far a parse goes -/
theorem dig_ge {s : ByteArray} : ∀ (f i x : Nat) {y k : Nat}, digN s f i x = some (y, k) → i ≤ k
  | 0, i, x, y, k, h => by rw [digN] at h; injection h with h; injection h with h1 h2; omega
  | f + 1, i, x, y, k, h => by
    rw [digN] at h
    split at h
    · split at h
      · cases h
      · have := dig_ge f _ _ h; omega
    · injection h with h; injection h with h1 h2; omega
theorem numE_at {m : Bool} {i1 c1 x i2 k : Nat} {v : Int} (h : numE m i1 c1 x i2 = some (v, k)) : k = i2 ∧ i2 ≠ i1 := by
  unfold numE at h
  split at h
  · cases h
  · rename_i hn
    split at h
    · injection h with h; injection h with h1 h2; exact ⟨h2.symm, fun e => hn (.inl e)⟩
    · split at h
      · injection h with h; injection h with h1 h2; exact ⟨h2.symm, fun e => hn (.inl e)⟩
      · cases h
theorem num_gt {s : ByteArray} {i k : Nat} {v : Int} (h : numP s i = some (v, k)) : i < k := by
  unfold numP at h
  split at h
  · split at h
    · cases h
    · rename_i hd
      obtain ⟨rfl, hne⟩ := numE_at h
      have := dig_ge _ _ _ hd
      omega
  · split at h
    · cases h
    · rename_i hd
      obtain ⟨rfl, hne⟩ := numE_at h
      have := dig_ge _ _ _ hd
      omega
theorem textN_gt {s : ByteArray} : ∀ (f i : Nat) (l : List UInt8) {m : List UInt8} {j : Nat}, textN s f i l = some (m, j) → i < j
  | 0, i, l, m, j, h => by rw [textN] at h; cases h
  | f + 1, i, l, m, j, h => by
    rw [textN] at h
    split at h
    · injection h with h; injection h with h1 h2; omega
    · split at h
      · split at h
        · cases h
        · rename_i he
          have h1 := (esc_len he).2
          have h2 := textN_gt f _ _ h
          omega
      · split at h
        · cases h
        · have h2 := textN_gt f _ _ h
          omega
theorem text_gt {s : ByteArray} {i j : Nat} {t : ByteArray} (h : textP s i = some (t, j)) : i < j := by
  unfold textP at h
  split at h
  · split at h
    · cases h
    · rename_i hd
      injection h with h; injection h with h1 h2
      have := textN_gt _ _ _ hd
      omega
  · cases h
theorem leaf_gt {s : ByteArray} {i k : Nat} {j : J} (h : leafP s i = .ok (j, k)) : i < k := by
  unfold leafP at h
  split at h
  · split at h
    · injection h with h; injection h with h1 h2; omega
    · cases h
  · split at h
    · split at h
      · injection h with h; injection h with h1 h2; omega
      · cases h
    · split at h
      · split at h
        · injection h with h; injection h with h1 h2; omega
        · cases h
      · split at h
        · split at h
          · cases h
          · rename_i hd
            injection h with h; injection h with h1 h2
            have := text_gt hd
            omega
        · split at h
          · cases h
          · rename_i hd
            injection h with h; injection h with h1 h2
            have := num_gt hd
            omega
theorem el_end {val : Nat → Except Int (J × Nat)} {s : ByteArray} {obj : Bool} {f i : Nat} {fst : Bool} {l : List J} {ks : List ByteArray} (h : bA s i = if obj then 125 else 93) : elemsP val s obj (f + 1) i fst l ks = .ok (l, ks, i + 1) := by rw [elemsP, if_pos h]
theorem el_comma {val : Nat → Except Int (J × Nat)} {s : ByteArray} {obj : Bool} {f i : Nat} {l : List J} {ks : List ByteArray} (h : bA s i ≠ if obj then 125 else 93) (h2 : bA s i ≠ 44) : elemsP val s obj (f + 1) i false l ks = .error 300 := by rw [elemsP, if_neg h, if_pos ⟨rfl, h2⟩]
theorem el_list {val : Nat → Except Int (J × Nat)} {s : ByteArray} {f i : Nat} {fst : Bool} {l : List J} {ks : List ByteArray} (h : bA s i ≠ 93) (h2 : ¬ (fst = false ∧ bA s i ≠ 44)) :
    elemsP val s false (f + 1) i fst l ks = (match val (if fst then i else whiteE s (i + 1)) with | .error e => .error e | .ok (j, i4) => elemsP val s false f (whiteE s i4) false (l ++ [j]) ks) := by
  have h' : ¬ (bA s i = if false = true then 125 else 93) := h
  rw [elemsP, if_neg h', if_neg h2]
  rfl
theorem el_obj {val : Nat → Except Int (J × Nat)} {s : ByteArray} {f i : Nat} {fst : Bool} {l : List J} {ks : List ByteArray} (h : bA s i ≠ 125) (h2 : ¬ (fst = false ∧ bA s i ≠ 44)) :
    elemsP val s true (f + 1) i fst l ks = (match textP s (if fst then i else whiteE s (i + 1)) with
      | none => .error 300
      | some (k, i1) =>
        if ks.contains k then .error 300
        else if bA s (whiteE s i1) ≠ 58 then .error 300
        else (match val (whiteE s (whiteE s i1 + 1)) with
              | .error e => .error e
              | .ok (j, i4) => elemsP val s true f (whiteE s i4) false (l ++ [j]) (ks ++ [k]))) := by
  have h' : ¬ (bA s i = if true = true then 125 else 93) := h
  rw [elemsP, if_neg h', if_neg h2]
  rfl
theorem el_k0 (s : ByteArray) (i : Nat) (fst : Bool) : i ≤ (if fst then i else whiteE s (i + 1)) := by
  split
  · omega
  · have := white_ge s (i + 1); omega
theorem elems_gt {s : ByteArray} {val : Nat → Except Int (J × Nat)} (hv : ∀ i j k, val i = .ok (j, k) → i < k) (obj : Bool) : ∀ (f i : Nat) (fst : Bool) (l : List J) (ks : List ByteArray) {l2 : List J} {ks2 : List ByteArray} {k : Nat}, elemsP val s obj f i fst l ks = .ok (l2, ks2, k) → i < k
  | 0, i, fst, l, ks, l2, ks2, k, h => by rw [elemsP] at h; cases h
  | f + 1, i, fst, l, ks, l2, ks2, k, h => by
    by_cases he : bA s i = if obj then 125 else 93
    · rw [el_end he] at h
      injection h with h; injection h with h1 h2; injection h2 with h2 h3; omega
    by_cases hq : fst = false ∧ bA s i ≠ 44
    · obtain ⟨rfl, hq⟩ := hq
      rw [el_comma he hq] at h
      cases h
    have hi0 := el_k0 s i fst
    cases obj with
    | false =>
      rw [el_list he hq] at h
      generalize (if fst = true then i else whiteE s (i + 1)) = i0 at h hi0
      cases hd : val i0 with
      | error e => rw [hd] at h; cases h
      | ok p =>
        obtain ⟨j, i4⟩ := p
        rw [hd] at h
        have h2 := hv _ _ _ hd
        have h3 := elems_gt hv false f _ _ _ _ h
        have := white_ge s i4
        omega
    | true =>
      rw [el_obj he hq] at h
      generalize (if fst = true then i else whiteE s (i + 1)) = i0 at h hi0
      cases ht : textP s i0 with
      | none => rw [ht] at h; cases h
      | some p =>
        obtain ⟨q, i1⟩ := p
        rw [ht] at h
        have h1 := text_gt ht
        simp only [] at h
        split at h
        · cases h
        · split at h
          · cases h
          · cases hd : val (whiteE s (whiteE s i1 + 1)) with
            | error e => rw [hd] at h; cases h
            | ok p =>
              obtain ⟨j, i4⟩ := p
              rw [hd] at h
              have h2 := hv _ _ _ hd
              have h3 := elems_gt hv true f _ _ _ _ h
              have := white_ge s i1
              have := white_ge s (whiteE s i1 + 1)
              have := white_ge s i4
              omega
theorem val_gt (s : ByteArray) : ∀ (d i : Nat) (j : J) (k : Nat), valP s d i = .ok (j, k) → i < k
  | 0, i, j, k, h => by
    rw [valP] at h
    split at h
    · cases h
    · exact leaf_gt h
  | d + 1, i, j, k, h => by
    rw [valP] at h
    split at h
    · split at h
      · cases h
      · rename_i he
        injection h with h; injection h with h1 h2
        have := elems_gt (val_gt s d) _ _ _ _ _ _ he
        have := white_ge s (i + 1)
        omega
    · exact leaf_gt h
/-- What a list or an object says. -/
def innP (val : Nat → Except Int (J × Nat)) (s : ByteArray) (obj : Bool) (i : Nat) : Except Int (J × Nat) :=
  match elemsP val s obj (s.size + 1) (whiteE s (i + 1)) true [] [] with
  | .error e => .error e
  | .ok (l, ks, j) => .ok (.mk (if obj then 5 else 4) false 0 ⟨#[]⟩ l ks, j)
end Go.Proofs.YtoibfefalflooaaDoor
