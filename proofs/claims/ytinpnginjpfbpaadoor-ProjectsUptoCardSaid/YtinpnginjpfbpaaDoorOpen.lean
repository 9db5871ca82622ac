/-
  What a law's arguments read as: integers, truths, texts, structs, slices of them, at whatever depth; and a law's card out of its walk.
-/
import Derived.Test.YtinpnginjpfbpaaDoorRow
import Derived.Test.YtinpnginjpfbpaaDoorBase
import Derived.Deep.Slices
namespace Go.Proofs.YtinpnginjpfbpaaDoor
open Go.ChangeShapes Go.WideShapes Go.ChangeAt Go.RowKit

/-- Nothing that is read here is of more bytes than the form's reach. -/
def Lim (P : Program) {H : Type} (t : TypeId) (d : DataW H) : Prop := ∀ n ∈ d.weights P t, n ≤ reachBytes

/-- Cells that read as a datum of type t are those of some a. -/
def Opens (P : Program) {α : Type} (t : TypeId) (c : α → List Value) (Q : World → α → Prop) : Prop :=
  ∀ (H : Type) (enc : TypeId × Value → H) (w : World) (fuel : Nat) (cs : List Value) (x : DataW H × List MemPlace), DataW.trod enc P w 0 (fun _ => true) true fuel t cs = some x → Lim P t x.1 → ∃ a, cs = c a ∧ Q w a

variable {P : Program} {α β : Type}
theorem Opens.map {t : TypeId} {c : α → List Value} {Q : World → α → Prop} (h : Opens P t c Q) (f : α → β) {c' : β → List Value} {Q' : World → β → Prop} (hc : ∀ a, c a = c' (f a)) (hQ : ∀ w a, Q w a → Q' w (f a)) : Opens P t c' Q' :=
  fun H enc w fuel cs x hx hl => by
    obtain ⟨a, rfl, q⟩ := h H enc w fuel cs x hx hl
    exact ⟨f a, hc a, hQ w a q⟩
theorem opens_int {t : TypeId} (ht : P.underlying t = some (.int .i64)) : Opens P t (fun n : Int => [.int .i64 n]) (fun _ n => (Lit.int .i64 n).wf = true) := fun H enc w fuel cs x hx _ => by
  obtain ⟨n, rfl, _, hwf⟩ := DataW.trod_int ht hx
  exact ⟨n, rfl, hwf⟩
theorem opens_bool {t : TypeId} (ht : P.underlying t = some .bool) : Opens P t (fun b : Bool => [.bool b]) (fun _ _ => True) := fun H enc w fuel cs x hx _ => by
  obtain ⟨b, rfl, _⟩ := DataW.trod_bool ht hx
  exact ⟨b, rfl, trivial⟩
theorem opens_string {t : TypeId} (ht : P.underlying t = some .string) : Opens P t (fun s : ByteArray => [.string s]) (fun _ s => s.size ≤ maxLen ∧ s.size ≤ reachBytes) := fun H enc w fuel cs x hx hl => by
  obtain ⟨s, rfl, rfl, hs⟩ := DataW.trod_string ht hx
  exact ⟨s, rfl, hs, hl _ (by simp [DataW.weights])⟩

theorem weightsAll_mem {H : Type} {e : TypeId} {d : DataW H} {n : Nat} : ∀ {l : List (DataW H)}, d ∈ l → n ∈ d.weights P e → n ∈ DataW.weightsAll P e l
  | [], h, _ => by simp at h
  | x :: r, h, hn => by
    simp only [DataW.weightsAll, List.mem_append]
    rcases List.mem_cons.1 h with rfl | h
    · exact .inl hn
    · exact .inr (weightsAll_mem h hn)

theorem at_of_cells {w : World} {base : Nat} {a : Addr} {n : Nat} {cs : List Value} (h : w.cells? base a n = some cs) (hn : 0 < n) : ∃ b off, a = ⟨b, off, none⟩ ∧ b < w.heap.size ∧ At w b off cs := by
  obtain ⟨_, hlen, hc⟩ := World.cells?_some h
  obtain ⟨b, off, spot⟩ := a
  have h0 := hc 0 hn
  obtain ⟨u, hu⟩ : ∃ u, w.cell? (Addr.add ⟨b, off, spot⟩ 0) = some u := by
    rw [h0]
    exact ⟨_, List.getElem?_eq_getElem (by omega)⟩
  have hspot : spot = none := by simpa [Addr.add] using World.cell?_spot hu
  subst hspot
  refine ⟨b, off, rfl, ?_, fun j v hj => ?_⟩
  · have := World.block_lt_of_cell? w _ hu
    simpa [Addr.add] using this
  · have hj' : j < n := by have := (List.getElem?_eq_some_iff.1 hj).1; omega
    have := hc j hj'
    rw [hj, add_plain] at this
    exact this

theorem opens_slice {t e : TypeId} {size bytes : Nat} (ht : P.underlying t = some (.slice e)) (hc : P.cellsOf e = size) (hs : 0 < size) (hb : P.bytesOf e = bytes) {c : α → List Value} {Q : World → α → Prop} (he : Opens P e c Q) :
    Opens P t (fun p : Option Addr × Nat × List α => [.slice p.1 p.2.2.length p.2.1]) (fun w p => p.2.2.length ≤ p.2.1 ∧ p.2.1 ≤ maxLen ∧ p.2.1 * bytes ≤ reachBytes ∧ SlAt w w.heap.size size p.1 (p.2.2.map c) ∧ ∀ a ∈ p.2.2, Q w a) := fun H enc w fuel cs x hx hl => by
  subst hc hb
  rcases Go.Deep.open_slice ht hx with ⟨rfl, rfl⟩ | ⟨a, len, cap, m, n, D, Pl, rfl, _, hlc, hcm, hm, rfl, hel⟩
  · exact ⟨(none, 0, []), rfl, Nat.le_refl _, by simp [maxLen], by simp [reachBytes], SlAt.nil_, by simp⟩
  · simp only [if_true] at hm
    subst hm
    have hw : ∀ i, i < m → Lim P e (D i) := fun i hi k hk => by
      refine hl k ?_
      simp only [DataW.weights, ht]
      refine List.mem_cons_of_mem _ (List.mem_append.2 ?_)
      by_cases h : i < len
      · exact .inl (weightsAll_mem (List.mem_map.2 ⟨i, by simpa using h, rfl⟩) hk)
      · exact .inr (weightsAll_mem (List.mem_map.2 ⟨i - len, by simp; omega, by congr 1; omega⟩) hk)
    have hcap : m * P.bytesOf e ≤ reachBytes := by
      refine hl _ ?_
      simp only [DataW.weights, ht]
      refine List.mem_cons.2 (.inl ?_)
      congr 1
      simp
      omega
    have key : ∀ k, k ≤ len → ∃ l : List α, l.length = k ∧ (∀ i x, l[i]? = some x → w.cells? 0 (a.add (i * P.cellsOf e)) (P.cellsOf e) = some (c x) ∧ Q w x) := by
      intro k
      induction k with
      | zero => exact fun _ => ⟨[], rfl, fun i x h => by simp at h⟩
      | succ k ih =>
        intro hk
        obtain ⟨l, hln, hl'⟩ := ih (by omega)
        obtain ⟨cs', h1, h2⟩ := hel k (by omega)
        obtain ⟨x, rfl, q⟩ := he H enc w n cs' _ h2 (hw k (by omega))
        refine ⟨l ++ [x], by simp [hln], fun i y hy => ?_⟩
        rw [List.getElem?_append] at hy
        split at hy
        · exact hl' i y hy
        · have : i - l.length = 0 := by
            rcases Nat.eq_zero_or_pos (i - l.length) with h | h
            · exact h
            · rw [List.getElem?_eq_none (by simp; omega)] at hy; cases hy
          rw [this] at hy
          simp at hy
          subst hy
          obtain rfl : i = k := by omega
          exact ⟨h1, q⟩
    obtain ⟨l, hln, hl'⟩ := key len (Nat.le_refl _)
    refine ⟨(some a, m, l), by simp [hln], by simpa [hln] using hlc, hcm, hcap, ?_, fun x hx => ?_⟩
    · intro hp
      simp at hp
      obtain ⟨x0, hx0⟩ : ∃ x0, l[0]? = some x0 := ⟨_, List.getElem?_eq_getElem (by omega)⟩
      obtain ⟨b, off, e0, hlt, _⟩ := at_of_cells (hl' 0 x0 hx0).1 hs
      obtain ⟨ab, ao, asp⟩ := a
      simp [Addr.add] at e0
      obtain ⟨rfl, rfl, rfl⟩ := e0
      refine ⟨ab, ao, rfl, hlt, fun i cs hi => ?_⟩
      rw [List.getElem?_map] at hi
      obtain ⟨y, hy, rfl⟩ := Option.map_eq_some_iff.1 hi
      obtain ⟨b', off', e1, _, hat⟩ := at_of_cells (hl' i y hy).1 hs
      rw [add_plain] at e1
      simp at e1
      obtain ⟨rfl, rfl⟩ := e1
      exact hat
    · obtain ⟨i, hi⟩ := List.mem_iff_getElem?.1 hx
      exact (hl' i x hi).2

/-- The fields of a struct from one on. -/
def OpensF (P : Program) {α : Type} (fs : List Field) (off tot : Nat) (c : α → List Value) (Q : World → α → Prop) : Prop :=
  ∀ (H : Type) (enc : TypeId × Value → H) (w : World) (n : Nat) (cs : List Value) (xs : List (DataW H × List MemPlace)), cs.length = tot → xs.length = fs.length →
    (∀ (i : Nat) (f : Field), fs[i]? = some f → DataW.trod enc P w 0 (fun _ => true) true n f.type ((cs.drop f.offset).take (P.cellsOf f.type)) = xs[i]?) →
    (∀ k ∈ DataW.weightsEach P (fs.map (·.type)) (xs.map (·.1)), k ≤ reachBytes) → ∃ a, cs.drop off = c a ∧ Q w a
theorem opensF_nil {off tot : Nat} (h : off = tot) : OpensF P [] off tot (fun _ : Unit => []) (fun _ _ => True) := fun H enc w n cs xs hc _ _ _ => ⟨(), by simp [hc, h], trivial⟩
theorem opensF_cons {f : Field} {fs : List Field} {off k tot : Nat} (ho : f.offset = off) (hk : P.cellsOf f.type = k) {c : α → List Value} {Q : World → α → Prop} (h : Opens P f.type c Q) {c' : β → List Value} {Q' : World → β → Prop} (hr : OpensF P fs (off + k) tot c' Q') :
    OpensF P (f :: fs) off tot (fun p : α × β => c p.1 ++ c' p.2) (fun w p => Q w p.1 ∧ Q' w p.2) := fun H enc w n cs xs hc hx hf hl => by
  subst ho hk
  match xs, hx with
  | x :: xs, hx =>
    obtain ⟨a, ha, q⟩ := h H enc w n _ x (by simpa using hf 0 f rfl) (fun k hk => hl k (by simp only [List.map_cons, DataW.weightsEach, List.mem_append]; exact .inl hk))
    obtain ⟨b, hb, q'⟩ := hr H enc w n cs xs hc (by simpa using hx) (fun i g hg => by simpa using hf (i + 1) g (by simpa using hg)) (fun k hk => hl k (by simp only [List.map_cons, DataW.weightsEach, List.mem_append]; exact .inr hk))
    refine ⟨(a, b), ?_, q, q'⟩
    show _ = c a ++ c' b
    rw [← ha, ← hb, ← List.drop_drop, List.take_append_drop]
theorem opens_struct {t : TypeId} {fs : Array Field} {tot : Nat} (ht : P.underlying t = some (.struct fs)) (hc : P.cellsOf t = tot) {c : α → List Value} {Q : World → α → Prop} (h : OpensF P fs.toList 0 tot c Q) : Opens P t c Q := fun H enc w fuel cs x hx hl => by
  obtain ⟨xs, n, rfl, rfl, hlen, hxl, hf⟩ := DataW.trod_struct ht hx
  have := h H enc w n cs xs (by rw [hlen, hc]) (by simpa using hxl) (fun i f hi => hf i f (by simpa using hi)) (fun k hk => hl k (by simp only [DataW.weights, ht]; exact hk))
  simpa using this

/-- An argument, opened. -/
theorem Opens.arg {H : Type} {enc : TypeId × Value → H} {t : TypeId} {c : α → List Value} {Q : World → α → Prop} (h : Opens P t c Q) {W : World} {v : Value} {d : DataW H} {p : List MemPlace} (hv : DataW.Trod enc P W 0 (fun _ => true) true t v d p) (hl : Lim P t d) : ∃ a, v.cells.toList = c a ∧ Q W a := by
  obtain ⟨fuel, hx⟩ := hv
  exact h H enc W fuel _ _ hx hl
end Go.Proofs.YtinpnginjpfbpaaDoor
