/-
  The opener of a JSON value.
-/
import Derived.Test.YtoibfefalflooaaDoorOpJ
import Derived.Test.YtoibfefalflooaaDoorJ5
namespace Go.Proofs.YtoibfefalflooaaDoor
open Go.ChangeShapes Go.WideShapes Go.ChangeAt Go.RowKit

/-- Opens, at one fuel. -/
def OpN (P : Program) {α : Type} (n : Nat) (t : TypeId) (c : α → List Value) (Q : World → α → Prop) : Prop :=
  ∀ (H : Type) (enc : TypeId × Value → H) (w : World) (cs : List Value) (x : DataW H × List MemPlace), DataW.trod enc P w 0 (fun _ => true) true n t cs = some x → Lim P t x.1 → ∃ a, cs = c a ∧ Q w a
theorem Opens.n {P : Program} {α : Type} {t : TypeId} {c : α → List Value} {Q : World → α → Prop} (h : Opens P t c Q) (n : Nat) : OpN P n t c Q := fun H enc w cs x hx hl => h H enc w n cs x hx hl
theorem opN_slice {P : Program} {α : Type} {n : Nat} {t e : TypeId} {size bytes : Nat} (ht : P.underlying t = some (.slice e)) (hc : P.cellsOf e = size) (hs : 0 < size) (hb : P.bytesOf e = bytes) {c : α → List Value} {Q : World → α → Prop} (he : ∀ k, n = k + 1 → OpN P k e c Q) :
    OpN P n t (fun p : Option Addr × Nat × List α => [.slice p.1 p.2.2.length p.2.1]) (fun w p => p.2.2.length * bytes ≤ reachBytes ∧ SlAt w w.heap.size size p.1 (p.2.2.map c) ∧ ∀ a ∈ p.2.2, Q w a) := fun H enc w cs x hx hl => by
  subst hc hb
  rcases DataW.trod_slice ht hx with ⟨rfl, rfl⟩ | ⟨a, len, cap, elems, rest, n', hn, rfl, rfl, _, hlc, hcm, hlen, hel, _, _⟩
  · exact ⟨(none, 0, []), rfl, by simp [reachBytes], SlAt.nil_, by simp⟩
  · have he := he n' hn
    have hw : ∀ d ∈ elems.map (·.1), Lim P e d := fun d hd k hk => by
      refine hl k ?_
      simp only [DataW.weights, ht]
      exact List.mem_cons_of_mem _ (List.mem_append.2 (.inl (weightsAll_mem hd hk)))
    have hcap : len * P.bytesOf e ≤ reachBytes := by
      have h := hl (((elems.map (·.1)).length + (rest.map (·.1)).length) * P.bytesOf e) (by
        simp only [DataW.weights, ht]
        exact List.mem_cons.2 (.inl rfl))
      rw [List.length_map, hlen] at h
      exact Nat.le_trans (Nat.mul_le_mul_right _ (Nat.le_add_right _ _)) h
    have key : ∀ k, k ≤ len → ∃ l : List α, l.length = k ∧ (∀ i x, l[i]? = some x → w.cells? 0 (a.add (i * P.cellsOf e)) (P.cellsOf e) = some (c x) ∧ Q w x) := by
      intro k
      induction k with
      | zero => exact fun _ => ⟨[], rfl, fun i x h => by simp at h⟩
      | succ k ih =>
        intro hk
        obtain ⟨l, hln, hl'⟩ := ih (by omega)
        have hk2 : k < elems.length := by omega
        have h3 := hel k (by omega)
        rw [List.getElem?_eq_getElem hk2] at h3
        obtain ⟨cs', h1, h2⟩ := Option.bind_eq_some_iff.1 h3
        obtain ⟨x, rfl, q⟩ := he H enc w cs' _ h2 (hw _ (List.mem_map.2 ⟨_, List.getElem_mem hk2, rfl⟩))
        refine ⟨l ++ [x], by simp [hln], fun i y hy => ?_⟩
        rw [List.getElem?_append] at hy
        split at hy
        · exact hl' i y hy
        · have : i - l.length = 0 := by
            rcases Nat.eq_zero_or_pos (i - l.length) with h | h
            · exact h
            · rw [List.getElem?_eq_none (by simp; omega)] at hy; cases hy
          rw [this] at hy
          simp at hy
          subst hy
          obtain rfl : i = k := by omega
          exact ⟨h1, q⟩
    obtain ⟨l, hln, hl'⟩ := key len (Nat.le_refl _)
    refine ⟨(some a, cap, l), by simp [hln], by simpa [hln] using hcap, ?_, fun x hx => ?_⟩
    · intro hp
      simp at hp
      obtain ⟨x0, hx0⟩ : ∃ x0, l[0]? = some x0 := ⟨_, List.getElem?_eq_getElem (by omega)⟩
      obtain ⟨b, off, e0, hlt, _⟩ := at_of_cells (hl' 0 x0 hx0).1 hs
      obtain ⟨ab, ao, asp⟩ := a
      simp [Addr.add] at e0
      obtain ⟨rfl, rfl, rfl⟩ := e0
      refine ⟨ab, ao, rfl, hlt, fun i cs hi => ?_⟩
      rw [List.getElem?_map] at hi
      obtain ⟨y, hy, rfl⟩ := Option.map_eq_some_iff.1 hi
      obtain ⟨b', off', e1, _, hat⟩ := at_of_cells (hl' i y hy).1 hs
      rw [add_plain] at e1
      simp at e1
      obtain ⟨rfl, rfl⟩ := e1
      exact hat
    · obtain ⟨i, hi⟩ := List.mem_iff_getElem?.1 hx
      exact (hl' i x hi).2
/-- The fields of a struct, at one fuel. -/
def OpFN (P : Program) {α : Type} (n : Nat) (fs : List Field) (off tot : Nat) (c : α → List Value) (Q : World → α → Prop) : Prop :=
  ∀ (H : Type) (enc : TypeId × Value → H) (w : World) (cs : List Value) (xs : List (DataW H × List MemPlace)), cs.length = tot → xs.length = fs.length →
    (∀ (i : Nat) (f : Field), fs[i]? = some f → DataW.trod enc P w 0 (fun _ => true) true n f.type ((cs.drop f.offset).take (P.cellsOf f.type)) = xs[i]?) →
    (∀ k ∈ DataW.weightsEach P (fs.map (·.type)) (xs.map (·.1)), k ≤ reachBytes) → ∃ a, cs.drop off = c a ∧ Q w a
section
variable {P : Program} {α β : Type} {n : Nat}
theorem opFN_nil {off tot : Nat} (h : off = tot) : OpFN P n [] off tot (fun _ : Unit => []) (fun _ _ => True) := fun H enc w cs xs hc _ _ _ => ⟨(), by simp [hc, h], trivial⟩
theorem opFN_cons {f : Field} {fs : List Field} {off k tot : Nat} (ho : f.offset = off) (hk : P.cellsOf f.type = k) {c : α → List Value} {Q : World → α → Prop} (h : OpN P n f.type c Q) {c' : β → List Value} {Q' : World → β → Prop} (hr : OpFN P n fs (off + k) tot c' Q') :
    OpFN P n (f :: fs) off tot (fun p : α × β => c p.1 ++ c' p.2) (fun w p => Q w p.1 ∧ Q' w p.2) := fun H enc w cs xs hc hx hf hl => by
  subst ho hk
  match xs, hx with
  | x :: xs, hx =>
    obtain ⟨a, ha, q⟩ := h H enc w _ x (by simpa using hf 0 f rfl) (fun k hk => hl k (by simp only [List.map_cons, DataW.weightsEach, List.mem_append]; exact .inl hk))
    obtain ⟨b, hb, q'⟩ := hr H enc w cs xs hc (by simpa using hx) (fun i g hg => by simpa using hf (i + 1) g (by simpa using hg)) (fun k hk => hl k (by simp only [List.map_cons, DataW.weightsEach, List.mem_append]; exact .inr hk))
    refine ⟨(a, b), ?_, q, q'⟩
    show _ = c a ++ c' b
    rw [← ha, ← hb, ← List.drop_drop, List.take_append_drop]
theorem opN_struct {t : TypeId} {fs : Array Field} {tot : Nat} (ht : P.underlying t = some (.struct fs)) (hc : P.cellsOf t = tot) {c : α → List Value} {Q : World → α → Prop} (h : ∀ k, n = k + 1 → OpFN P k fs.toList 0 tot c Q) : OpN P n t c Q := fun H enc w cs x hx hl => by
  obtain ⟨xs, n', hn, rfl, hlen, hxl, hf⟩ := DataW.trod_struct ht hx
  have := h n' hn H enc w cs xs (by rw [hlen, hc]) (by simpa using hxl) (fun i f hi => hf i f (by simpa using hi)) (fun k hk => hl k (by simp only [DataW.weights, ht]; exact hk))
  simpa using this
end
theorem RdTs.of {w : World} : ∀ {l : List T}, (∀ t ∈ l, RdT w t) → RdTs w l
  | [], _ => by rw [RdTs]; trivial
  | t :: r, h => by rw [RdTs]; exact ⟨h t (by simp), RdTs.of (fun x hx => h x (by simp [hx]))⟩
/-- A JSON value's cells are a tree's, which can be read. -/
theorem opN_json : ∀ n : Nat, OpN Tryd.prog n 25 T.cells (fun w t => RdT w t) := fun n => by
  induction n using Nat.strongRecOn with
  | _ n ih =>
    intro H enc w cs x hx hl
    have hS := opN_struct (P := Tryd.prog) (n := n) (t := 25) (tot := 6) Tryd.underlying25 (by kernel_rfl) (fun k hk =>
      opFN_cons (k := 1) (by rfl) (by kernel_rfl) (o_int.n k) (opFN_cons (k := 1) (by rfl) (by kernel_rfl) (o_bool.n k) (opFN_cons (k := 1) (by rfl) (by kernel_rfl) (o_int.n k) (opFN_cons (k := 1) (by rfl) (by kernel_rfl) (o_str.n k)
        (opFN_cons (k := 1) (by rfl) (by kernel_rfl) (opN_slice (n := k) (t := 22) (size := 6) (bytes := 88) Tryd.underlying22 (by kernel_rfl) (by decide) (by kernel_rfl) (fun m hm => ih m (by omega)))
          (opFN_cons (k := 1) (by rfl) (by kernel_rfl) (opN_slice (n := k) (t := 23) (size := 1) (bytes := 16) Tryd.underlying23 (by kernel_rfl) (by decide) (by kernel_rfl) (fun m _ => o_str.n m)) (opFN_nil rfl)))))))
    obtain ⟨⟨k, b, n2, s, ⟨A, c, l⟩, ⟨AK, cK, ks⟩, u⟩, hcs, h1, _, h3, h4, h5, h6, _⟩ := hS H enc w cs x hx hl
    simp only at h5 h6
    refine ⟨.mk k b n2 s A c l AK cK ks, ?_, ?_⟩
    · rw [hcs, T.cells]; rfl
    · show RdT w (.mk k b n2 s A c l AK cK ks)
      rw [RdT]
      have b1 := bounds_i64 h1
      have b3 := bounds_i64 h3
      refine ⟨h5.2.1, h6.2.1, ⟨?_, ?_⟩, ⟨b1, b3⟩, h4.1, fun q hq => (h6.2.2 q hq).1, RdTs.of h5.2.2⟩
      · have := h5.1; simp only [reachBytes] at this; omega
      · have := h6.1; simp only [reachBytes] at this; omega
theorem o_json : Opens Tryd.prog 25 T.cells (fun w t => RdT w t) := fun H enc w fuel cs x hx hl => opN_json fuel H enc w cs x hx hl
end Go.Proofs.YtoibfefalflooaaDoor
