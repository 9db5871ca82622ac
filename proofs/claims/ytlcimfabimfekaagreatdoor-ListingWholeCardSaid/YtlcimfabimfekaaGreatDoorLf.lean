/-
  listing.sorted, last, whole, floor: numbers in order, and what is asked of them.
-/
import Derived.Test.YtlcimfabimfekaaGreatDoorLc
import Derived.Test.YtlcimfabimfekaaGreatDoorLe
namespace Go.Proofs.YtlcimfabimfekaaGreatDoor
open Go.RowKit

theorem compact_sorted (d : Array Int) (hs : ∀ i j, i < j → j < d.size → d[i]! ≤ d[j]!) : ∀ m, m ≤ d.size → Rise (Lib.compactUpTo d m) ∧ ∀ x, x ∈ Lib.compactUpTo d m ↔ ∃ j, j < m ∧ d[j]! = x
  | 0, _ => ⟨List.Pairwise.nil, fun x => ⟨fun h => by simp [Lib.compactUpTo] at h, fun ⟨j, h, _⟩ => by omega⟩⟩
  | m + 1, hm => by
    obtain ⟨h1, h2⟩ := compact_sorted d hs m (by omega)
    rw [Lib.compactUpTo_succ]
    by_cases hk : Lib.keeps d m = true
    · rw [if_pos hk]
      have hk2 : m = 0 ∨ d[m]! ≠ d[m - 1]! := by simpa [Lib.keeps] using hk
      refine ⟨List.pairwise_append.2 ⟨h1, List.pairwise_singleton _ _, fun a ha b hb => ?_⟩, fun x => ?_⟩
      · obtain ⟨j, hj, rfl⟩ := (h2 a).1 ha
        obtain rfl : b = d[m]! := by simpa using hb
        have h3 := hs j m hj (by omega)
        rcases hk2 with h | h
        · omega
        · by_cases e : j = m - 1
          · subst e; omega
          · have h4 := hs j (m - 1) (by omega) (by omega)
            have h5 := hs (m - 1) m (by omega) (by omega)
            omega
      · rw [List.mem_append, h2]
        constructor
        · rintro (⟨j, h, e⟩ | h)
          · exact ⟨j, by omega, e⟩
          · exact ⟨m, by omega, (List.mem_singleton.1 h).symm⟩
        · rintro ⟨j, h, e⟩
          by_cases hj : j = m
          · subst hj; exact .inr (by simp [e])
          · exact .inl ⟨j, by omega, e⟩
    · rw [if_neg hk, List.append_nil]
      have hk2 : m ≠ 0 ∧ d[m]! = d[m - 1]! := by simpa [Lib.keeps] using hk
      refine ⟨h1, fun x => ?_⟩
      rw [h2]
      constructor
      · rintro ⟨j, h, e⟩; exact ⟨j, by omega, e⟩
      · rintro ⟨j, h, e⟩
        by_cases hj : j = m
        · subst hj; exact ⟨j - 1, by omega, by rw [← hk2.2]; exact e⟩
        · exact ⟨j, by omega, e⟩
theorem compact_le (l : List Int) : (Lib.compact l).length ≤ l.length := by
  unfold Lib.compact Lib.compactUpTo
  rw [List.length_map]
  exact Nat.le_trans (List.length_filter_le ..) (by simp)
theorem get_arr (l : List Int) {i : Nat} (h : i < l.length) : l.toArray[i]! = l[i] := by simp [h]
theorem sort_compact (zs : List Int) : Rise (Lib.compact (zs.mergeSort fun x y => decide (x ≤ y))) ∧ ∀ x, x ∈ Lib.compact (zs.mergeSort fun x y => decide (x ≤ y)) ↔ x ∈ zs := by
  have hp := List.mergeSort_perm zs (fun x y : Int => decide (x ≤ y))
  have hs := List.pairwise_mergeSort (le := fun x y : Int => decide (x ≤ y)) (fun a b c h1 h2 => by simp at h1 h2 ⊢; omega) (fun a b => by simp; omega) zs
  obtain ⟨l, hl⟩ : ∃ l, zs.mergeSort (fun x y => decide (x ≤ y)) = l := ⟨_, rfl⟩
  rw [hl] at hp hs ⊢
  have hs2 : ∀ i j, i < j → j < l.toArray.size → l.toArray[i]! ≤ l.toArray[j]! := by
    intro i j hij hj
    have hj2 : j < l.length := by simpa using hj
    rw [get_arr l hj2, get_arr l (Nat.lt_trans hij hj2)]
    have := List.pairwise_iff_getElem.1 hs i j (by omega) hj2 hij
    simpa using this
  obtain ⟨h1, h2⟩ := compact_sorted l.toArray hs2 l.length (by simp)
  refine ⟨h1, fun x => ?_⟩
  show x ∈ Lib.compactUpTo l.toArray l.length ↔ _
  rw [h2, ← hp.mem_iff]
  constructor
  · rintro ⟨j, hj, rfl⟩
    rw [get_arr l hj]
    exact List.getElem_mem hj
  · intro hx
    obtain ⟨j, hj, rfl⟩ := List.mem_iff_getElem.1 hx
    exact ⟨j, hj, get_arr l hj⟩
theorem blk_put {w : World} {g : Nat} {e : TypeId} {cur : List Value} {d : List Int} (h : Blk w g e cur) (hd : d.length ≤ cur.length) :
    ∃ cur', Blk (Sort.putRow (Value.int .i64) w g 0 d.toArray) g e cur' ∧ cur'.length = cur.length ∧ cur'.take d.length = d.map (Value.int .i64) := by
  refine ⟨(Sort.putCells (Value.int .i64) 0 d.toArray cur.toArray).toList, ?_, by simp [Sort.putCells], ?_⟩
  · unfold Blk at h ⊢
    unfold Sort.putRow Sort.mapBlock
    simp only [Array.getElem?_modify, if_pos, h, Option.map_some, Sort.onCells]
  · apply List.ext_getElem?
    intro i
    rw [List.getElem?_take]
    by_cases hi : i < d.length
    · rw [if_pos hi]
      have hi2 : i < cur.length := by omega
      simp [Sort.putCells, hi, hi2]
    · rw [if_neg hi, List.getElem?_eq_none (by simp; omega)]
theorem blk_ahead {w : World} {g n : Nat} {e : TypeId} {cur : List Value} (h : Blk w g e cur) : Blk (Sort.ahead w n) g e cur := h
theorem blk_grow {w : World} {g : Nat} {e : TypeId} {cur : List Value} {os : Array Obj} (h : Blk w g e cur) : Blk (Sort.grow w os) g e cur := by
  unfold Blk at h ⊢
  rw [Sort.heap_grow_old w os (Blk.lt h)]
  exact h
theorem grown_put (w : World) (g n : Nat) (d : Array Int) : w.grownBy (Sort.putRow (Value.int .i64) (Sort.ahead w n) g 0 d) (some g) :=
  ⟨rfl, rfl, rfl, by simp [Sort.putRow, Sort.mapBlock, Sort.ahead], fun k hk hne => by
    have : g ≠ k := fun h => hne (by rw [h])
    simp [Sort.putRow, Sort.mapBlock, Sort.ahead, Array.getElem?_modify, this]⟩
theorem grown_grow {w w' : World} {row : Option Nat} (h : w.grownBy w' row) (os : Array Obj) : w.grownBy (Sort.grow w' os) row :=
  ⟨h.os, h.tape, h.output, Nat.le_trans h.size (by simp [Sort.grow]), fun k hk hne => by
    rw [Sort.heap_grow_old w' os (Nat.lt_of_lt_of_le hk h.size)]; exact h.block k hk hne⟩
theorem grown_trans {a b c : World} {row : Option Nat} (h : a.grownBy b row) (k : b.grownBy c row) : a.grownBy c row :=
  ⟨k.os.trans h.os, k.tape.trans h.tape, k.output.trans h.output, Nat.le_trans h.size k.size, fun i hi hne => (k.block i (Nat.lt_of_lt_of_le hi h.size) hne).trans (h.block i hi hne)⟩
theorem holds_blk {w : World} {g : Nat} {e : TypeId} {cur : List Value} {zs : List Int} (h : Blk w g e cur) (ht : cur.take zs.length = zs.map (Value.int .i64)) : Sort.Holds (Value.int .i64) w g 0 zs.toArray := by
  intro j hj
  have hj2 : j < zs.length := by simpa using hj
  refine ⟨?_, h.free _⟩
  have h1 : cur[j]? = some (.int .i64 zs[j]) := by
    have h2 : (cur.take zs.length)[j]? = some (.int .i64 zs[j]) := by rw [ht]; simp [hj2]
    rwa [List.getElem?_take, if_pos hj2] at h2
  have h3 := h.at0 j _ h1
  rw [get_arr zs hj2]
  exact h3
theorem intFlat (l : List Int) : (intCells l).flatten = l.map (Value.int .i64) := by
  unfold intCells
  induction l with
  | nil => rfl
  | cons x r ih => rw [List.map_cons, List.flatten_cons, ih]; rfl

theorem int_fit (l : List Int) : Fit 1 (intCells l) := Fit.map (f := fun n : Int => [Value.int .i64 n]) (fun n => ⟨rfl, fun u hu => by simp at hu; rw [hu]; rfl⟩) l
set_option maxRecDepth 100000 in
set_option maxHeartbeats 4000000 in
theorem psorted_any (zs : List Int) (A : Option Addr) (c base : Nat) (w : World) (h : Own w base 3 1 (.slice A zs.length c) (intCells zs)) (hl : zs.length < 4611686018427387904) :
    Calls Tryz.prog 43 #[.slice A zs.length c] w fun e w' => ∃ ys : List Int, e = .returned (.slice A ys.length c) ∧ Rise ys ∧ (∀ x, x ∈ ys ↔ x ∈ zs) ∧ ys.length ≤ zs.length ∧ Own w' base 3 1 (.slice A ys.length c) (intCells ys) ∧ w.grownBy w' (Value.slice A zs.length c).ownBlock := by
  by_cases h0 : zs = []
  · subst h0
    have HO := hide h
    have S1 := hide (fun w' => Tryz.slices_Sort_int_none A c w')
    have S2 := hide (fun w' => Tryz.slices_Compact_int_empty A c w')
    simp only [List.length_nil]
    go_enter Tryz.func43, Tryz.ntmps43
    go_wp2_with (first | (go_at_call 62; (with_reducible refine (S1.out _).mono ?_); rintro e w3 ⟨rfl, rfl⟩) | (go_at_call 63; (with_reducible refine (S2.out _).mono ?_); rintro e w4 ⟨rfl, rfl⟩))
    go_ret
    exact ⟨[], rfl, List.Pairwise.nil, fun x => Iff.rfl, Nat.le_refl _, HO.out, World.grownBy.refl _ _⟩
  · obtain ⟨g, cur, rfl, hn, hg, hb, hnc, hcm, hcl, ht⟩ := h.blk (by simp [intCells]; exact List.length_pos_iff.2 h0)
    rw [Nat.mul_one] at hcl ht
    rw [intFlat] at ht
    obtain ⟨hr, hm⟩ := sort_compact zs
    have hsl : (zs.mergeSort fun x y => decide (x ≤ y)).length = zs.length := List.length_mergeSort ..
    have hcl2 := compact_le (zs.mergeSort fun x y => decide (x ≤ y))
    have P1 := Tryz.slices_Sort_int g 0 c zs w (holds_blk hb ht) hb.lt hl
    obtain ⟨ss, hss⟩ : ∃ ss, zs.mergeSort (fun x y => decide (x ≤ y)) = ss := ⟨_, rfl⟩
    rw [hss] at hr hm hsl hcl2 P1
    have P1b : Calls Tryz.prog 62 #[.slice (some ⟨g, 0, none⟩) zs.length c] w fun e w' => e = .returned (.tuple #[]) ∧ ∃ cur', Blk w' g 3 cur' ∧ cur'.length = c ∧ cur'.take ss.length = ss.map (Value.int .i64) ∧ w.grownBy w' (some g) := by
      refine P1.mono ?_
      rintro e w' ⟨rfl, n, os, rfl⟩
      obtain ⟨cur', b1, b2, b3⟩ := blk_put (d := ss) (blk_ahead (n := n) hb) (by omega)
      exact ⟨rfl, cur', blk_grow b1, by omega, b3, grown_grow (grown_put _ _ _ _) _⟩
    have P2 : ∀ w', (∃ cur', Blk w' g 3 cur' ∧ cur'.length = c ∧ cur'.take ss.length = ss.map (Value.int .i64)) → Calls Tryz.prog 63 #[.slice (some ⟨g, 0, none⟩) zs.length c] w' fun e w'' => e = .returned (.slice (some ⟨g, 0, none⟩) (Lib.compact ss).length c) ∧ Own w'' base 3 1 (.slice (some ⟨g, 0, none⟩) (Lib.compact ss).length c) (intCells (Lib.compact ss)) ∧ w'.grownBy w'' (some g) := by
      rintro w' ⟨cur', b1, b2, b3⟩
      have P := Tryz.slices_Compact_int g 0 c ss w' (holds_blk b1 b3) (by omega) (by omega)
      rw [hsl] at P
      refine P.mono ?_
      rintro e w'' ⟨rfl, q, rfl⟩
      refine ⟨rfl, ?_, grown_put _ _ _ _⟩
      obtain ⟨cur2, c1, c2, c3⟩ := blk_put (d := Lib.compact ss ++ List.replicate (zs.length - (Lib.compact ss).length) 0) (blk_ahead (n := q) b1) (by simp; omega)
      have c4 : cur2.take (Lib.compact ss).length = (Lib.compact ss).map (Value.int .i64) := by
        have e1 : (cur2.take (Lib.compact ss ++ List.replicate (zs.length - (Lib.compact ss).length) (0 : Int)).length).take (Lib.compact ss).length = cur2.take (Lib.compact ss).length := by
          rw [List.take_take]
          congr 1
          simp
        rw [← e1, c3, List.map_append]
        exact List.take_left' (by simp)
      exact Own.of_blk c1 hg (by simp [intCells]) (int_fit _).len (by omega) hcm (by omega) (by rw [Nat.mul_one, intFlat]; exact c4)
    have P1 := hide P1b
    have P2 := hide P2
    have HR := hide hr; have HM := hide hm; have HL := hide (Nat.le_trans hcl2 (Nat.le_of_eq hsl))
    clear P1b ht hb hss hr hm hcl hcl2 hsl
    go_enter Tryz.func43, Tryz.ntmps43
    go_wp2_with (first | (go_at_call 62; (with_reducible refine P1.out.mono ?_); rintro e w3 ⟨rfl, cur', b1, b2, b3, b4⟩; have HB := hide (⟨cur', b1, b2, b3⟩ : ∃ cur', Blk w3 g 3 cur' ∧ cur'.length = c ∧ cur'.take ss.length = ss.map (Value.int .i64)); have HG := hide b4; clear b1 b2 b3 b4) | (go_at_call 63; (with_reducible refine (P2.out _ HB.out).mono ?_); rintro e w4 ⟨rfl, o1, o2⟩; have HO := hide o1; have HG2 := hide o2; clear o1 o2))
    go_ret
    exact ⟨Lib.compact ss, rfl, HR.out, HM.out, HL.out, HO.out, grown_trans HG.out HG2.out⟩
end Go.Proofs.YtlcimfabimfekaaGreatDoor
