/-
  Openers of numbers, truths, texts; the library's table (chapter 3).
-/
import Derived.Test.YtoibfefalflooaaDoorJw
import Derived.Test.YtoibfefalflooaaDoorCards
import Derived.Test.YtoibfefalflooaaDoorTie
import Derived.WalkKit
import Derived.ProofKit
import Derived.OpenShut
import Derived.LaidMore
import Derived.Lay
import Derived.Below
import Derived.ChangeSame
import Derived.SevenTiedAt
import Derived.Stop.Joined
import Derived.Deep.DeepHandedRow
import Derived.Deep.Slices
namespace Go.Proofs.YtoibfefalflooaaDoor
open Go.ChangeShapes Go.WideShapes Go.ChangeAt Go.RowKit

theorem own : ownKnob Tryd.prog.godebug = none := by kernel_rfl

/-- The tables that the rows list. -/
def tables : List (String × DataW Unit) := [("math/bits.deBruijn32tab", Rows.laid_math_bits_deBruijn32tab), ("math/bits.deBruijn64tab", Rows.laid_math_bits_deBruijn64tab), ("internal/strconv.uint64pow10", Rows.laid_internal_strconv_uint64pow10)]
noncomputable def tabled (os : Os) : World := World.laidAll Tryd.prog os tables
theorem tabled_shaped (os : Os) (args : Array Value) : ((tabled os).forCall (fun _ _ => 0) ⟨#[], args, []⟩).Shaped Tryd.prog :=
  World.shaped_of_ZipB (by kernel_rfl) (by kernel_rfl)
theorem tabled_met (os : Os) (args : Array Value) : laidMetH Tryd.prog tables ((tabled os).forCall (fun _ _ => 0) ⟨#[], args, []⟩).memory := by
  rw [MakeChecks.laidMetH_plain _ _ _ (by kernel_rfl)]
  exact laidMet_laidAll _ (by kernel_rfl) (by kernel_rfl)

/-- The witness of a row that lists these tables. -/
theorem tabled_witness {H : Type} {enc : TypeId × Value → H} {os : Os} {f : FuncId} {fn : Func} {s : OpenSpec} {conds : List PathCond} {apart : Bool} (args : Array Value) (fuel : Nat)
    {x : List (DataW H) × List (DataW H) × List MemPlace} (hx : DataW.whole enc Tryd.prog ((tabled os).forCall (fun _ _ => 0) ⟨#[], args, []⟩).memory fn.params.toList s.vars apart args.toList fuel = some x)
    (hok : Input.okWideB Tryd.prog ((tabled os).forCall (fun _ _ => 0) ⟨#[], args, []⟩) f ⟨#[], args, []⟩ = true)
    (hconds : conds.all (PathCond.test Tryd.prog ⟨fn.params.toList, x.1, s.bare.plain.varTypes Tryd.prog, x.2.1⟩) = true) (hkk : ∀ k, s.cond = some k → k H (x.1 ++ x.2.1) = true)
    (hsz : s.bare.sizedB enc Tryd.prog fn apart ((tabled os).forCall (fun _ _ => 0) ⟨#[], args, []⟩).memory args fuel = true) :
    ∃ (w : World) (tape : Tape) (i : Input), w.os = os ∧ (w.forCall tape i).Shaped Tryd.prog ∧ i.vars = [] ∧ Input.okWide Tryd.prog (w.forCall tape i) .any w.heap.size f i ∧
      s.preRow enc Tryd.prog fn conds apart tables (w.forCall tape i).memory i.args ∧ ({ modest := false } : Assume).holds Tryd.prog (lone (Frame.enter Tryd.prog f i.args .normal) [] (w.forCall tape i)) :=
  ⟨tabled os, fun _ _ => 0, ⟨#[], args, []⟩, World.laidAll_os _ _ _, tabled_shaped os args, (Input.okWide_of_okWideB (base := 0) hok).1, (Input.okWide_of_okWideB hok).2,
    OpenSpec.preRow_of_cond fuel hx hconds hkk hsz (tabled_met os args), by
    simp only [Assume.holds]
    exact ⟨by simp, by simp, fun _ => Modest.zero, by simp, by simp⟩⟩

section
variable {H : Type} {enc : TypeId × Value → H} {P : Program}
theorem post_of_below {f : Func} {s : ChangeSpec} {apart fresh handsOn again : Bool} {W W' : World} {args : Array Value} {v : Value} {ds gs : List (DataW H)} {before pa pv : List MemPlace}
    (hW : DataW.Whole enc P f.params.toList s.vars apart W args.toList ds gs before)
    (hres : ∀ (b : Nat) (sp : Nat → Bool) (hd : Bool), DataW.TrodAll enc P W' b sp hd f.resultTypes.toList (v.resultList f.resultTypes.size) (s.fn H (ds ++ gs)).results [])
    (hargs : ∀ sp : Nat → Bool, (∀ p ∈ before, sp p.block = true) → DataW.TrodAll enc P W' 0 sp true f.params.toList args.toList (s.fn H (ds ++ gs)).args pa)
    (hvars : ∀ sp : Nat → Bool, (∀ p ∈ before, sp p.block = true) → DataW.TrodVars enc P W' sp s.vars (s.fn H (ds ++ gs)).vars pv)
    (hps : before = pa ++ pv) (hb : Below W.heap.size W W')
    (hok : ∀ (j : Nat) (t : TypeId) (r : Value), f.resultTypes[j]? = some t → (v.resultList f.resultTypes.size)[j]? = some r → Value.okWide P W' .any 0 t r) :
    s.post enc P f apart fresh handsOn again W args v W' := by
  have hlt : ∀ p ∈ before, p.block < W.heap.size := fun p hp => hW.lt p hp
  have hold : ∀ p ∈ before, (fun b => decide (b < W.heap.size)) p.block = true := fun p hp => by simpa using hlt p hp
  refine ⟨ds, gs, before, [], pa, pv, hW, hres _ _ _, hargs _ hold, hvars _ hold, World.keptBut_mono (fun p hp => ⟨hp, ?_⟩) (hb.frame (· ∈ before)), fun _ => ?_⟩
  · rw [hps, List.mem_append] at hp
    exact Or.inr hp
  · obtain ⟨_, _, _, _, _, hz, hn⟩ := hW
    refine ⟨hok, _, _, ([] ++ pa) ++ pv, ⟨[] ++ pa, pv, trodAll_append (hargs _ (fun _ _ => rfl)) (hres _ _ _), hvars _ (fun _ _ => rfl), rfl, ?_, ?_⟩, ?_⟩
    · intro b off hp
      have hin : MemPlace.cell b off ∈ before := by rw [hps]; simpa using hp
      rw [hb.frozen (hlt _ hin)]
      exact hz b off hin
    · intro ha
      have := hn ha
      rw [hps] at this
      simpa using this
    · intro p hp _
      rw [hps]
      simpa using hp
end
end Go.Proofs.YtoibfefalflooaaDoor
namespace Go.Proofs.YtoibfefalflooaaDoor
open Go.ChangeShapes Go.WideShapes Go.ChangeAt Go.RowKit

/-- Nothing that is read here is of more bytes than the form's reach. -/
def Lim (P : Program) {H : Type} (t : TypeId) (d : DataW H) : Prop := ∀ n ∈ d.weights P t, n ≤ reachBytes

/-- Cells that read as a datum of type t are those of some a. -/
def Opens (P : Program) {α : Type} (t : TypeId) (c : α → List Value) (Q : World → α → Prop) : Prop :=
  ∀ (H : Type) (enc : TypeId × Value → H) (w : World) (fuel : Nat) (cs : List Value) (x : DataW H × List MemPlace), DataW.trod enc P w 0 (fun _ => true) true fuel t cs = some x → Lim P t x.1 → ∃ a, cs = c a ∧ Q w a

variable {P : Program} {α β : Type}
theorem Opens.map {t : TypeId} {c : α → List Value} {Q : World → α → Prop} (h : Opens P t c Q) (f : α → β) {c' : β → List Value} {Q' : World → β → Prop} (hc : ∀ a, c a = c' (f a)) (hQ : ∀ w a, Q w a → Q' w (f a)) : Opens P t c' Q' :=
  fun H enc w fuel cs x hx hl => by
    obtain ⟨a, rfl, q⟩ := h H enc w fuel cs x hx hl
    exact ⟨f a, hc a, hQ w a q⟩
theorem opens_int {t : TypeId} (ht : P.underlying t = some (.int .i64)) : Opens P t (fun n : Int => [.int .i64 n]) (fun _ n => (Lit.int .i64 n).wf = true) := fun H enc w fuel cs x hx _ => by
  obtain ⟨n, rfl, _, hwf⟩ := DataW.trod_int ht hx
  exact ⟨n, rfl, hwf⟩
theorem opens_bool {t : TypeId} (ht : P.underlying t = some .bool) : Opens P t (fun b : Bool => [.bool b]) (fun _ _ => True) := fun H enc w fuel cs x hx _ => by
  obtain ⟨b, rfl, _⟩ := DataW.trod_bool ht hx
  exact ⟨b, rfl, trivial⟩
theorem opens_string {t : TypeId} (ht : P.underlying t = some .string) : Opens P t (fun s : ByteArray => [.string s]) (fun _ s => s.size ≤ maxLen ∧ s.size ≤ reachBytes) := fun H enc w fuel cs x hx hl => by
  obtain ⟨s, rfl, rfl, hs⟩ := DataW.trod_string ht hx
  exact ⟨s, rfl, hs, hl _ (by simp [DataW.weights])⟩

theorem weightsAll_mem {H : Type} {e : TypeId} {d : DataW H} {n : Nat} : ∀ {l : List (DataW H)}, d ∈ l → n ∈ d.weights P e → n ∈ DataW.weightsAll P e l
  | [], h, _ => by simp at h
  | x :: r, h, hn => by
    simp only [DataW.weightsAll, List.mem_append]
    rcases List.mem_cons.1 h with rfl | h
    · exact .inl hn
    · exact .inr (weightsAll_mem h hn)

theorem at_of_cells {w : World} {base : Nat} {a : Addr} {n : Nat} {cs : List Value} (h : w.cells? base a n = some cs) (hn : 0 < n) : ∃ b off, a = ⟨b, off, none⟩ ∧ b < w.heap.size ∧ At w b off cs := by
  obtain ⟨_, hlen, hc⟩ := World.cells?_some h
  obtain ⟨b, off, spot⟩ := a
  have h0 := hc 0 hn
  obtain ⟨u, hu⟩ : ∃ u, w.cell? (Addr.add ⟨b, off, spot⟩ 0) = some u := by
    rw [h0]
    exact ⟨_, List.getElem?_eq_getElem (by omega)⟩
  have hspot : spot = none := by simpa [Addr.add] using World.cell?_spot hu
  subst hspot
  refine ⟨b, off, rfl, ?_, fun j v hj => ?_⟩
  · have := World.block_lt_of_cell? w _ hu
    simpa [Addr.add] using this
  · have hj' : j < n := by have := (List.getElem?_eq_some_iff.1 hj).1; omega
    have := hc j hj'
    rw [hj, add_plain] at this
    exact this

theorem opens_slice {t e : TypeId} {size bytes : Nat} (ht : P.underlying t = some (.slice e)) (hc : P.cellsOf e = size) (hs : 0 < size) (hb : P.bytesOf e = bytes) {c : α → List Value} {Q : World → α → Prop} (he : Opens P e c Q) :
    Opens P t (fun p : Option Addr × Nat × List α => [.slice p.1 p.2.2.length p.2.1]) (fun w p => p.2.2.length ≤ p.2.1 ∧ p.2.1 ≤ maxLen ∧ p.2.1 * bytes ≤ reachBytes ∧ SlAt w w.heap.size size p.1 (p.2.2.map c) ∧ ∀ a ∈ p.2.2, Q w a) := fun H enc w fuel cs x hx hl => by
  subst hc hb
  rcases Go.Deep.open_slice ht hx with ⟨rfl, rfl⟩ | ⟨a, len, cap, m, n, D, Pl, rfl, _, hlc, hcm, hm, rfl, hel⟩
  · exact ⟨(none, 0, []), rfl, Nat.le_refl _, by simp [maxLen], by simp [reachBytes], SlAt.nil_, by simp⟩
  · simp only [if_true] at hm
    subst hm
    have hw : ∀ i, i < m → Lim P e (D i) := fun i hi k hk => by
      refine hl k ?_
      simp only [DataW.weights, ht]
      refine List.mem_cons_of_mem _ (List.mem_append.2 ?_)
      by_cases h : i < len
      · exact .inl (weightsAll_mem (List.mem_map.2 ⟨i, by simpa using h, rfl⟩) hk)
      · exact .inr (weightsAll_mem (List.mem_map.2 ⟨i - len, by simp; omega, by congr 1; omega⟩) hk)
    have hcap : m * P.bytesOf e ≤ reachBytes := by
      refine hl _ ?_
      simp only [DataW.weights, ht]
      refine List.mem_cons.2 (.inl ?_)
      congr 1
      simp
      omega
    have key : ∀ k, k ≤ len → ∃ l : List α, l.length = k ∧ (∀ i x, l[i]? = some x → w.cells? 0 (a.add (i * P.cellsOf e)) (P.cellsOf e) = some (c x) ∧ Q w x) := by
      intro k
      induction k with
      | zero => exact fun _ => ⟨[], rfl, fun i x h => by simp at h⟩
      | succ k ih =>
        intro hk
        obtain ⟨l, hln, hl'⟩ := ih (by omega)
        obtain ⟨cs', h1, h2⟩ := hel k (by omega)
        obtain ⟨x, rfl, q⟩ := he H enc w n cs' _ h2 (hw k (by omega))
        refine ⟨l ++ [x], by simp [hln], fun i y hy => ?_⟩
        rw [List.getElem?_append] at hy
        split at hy
        · exact hl' i y hy
        · have : i - l.length = 0 := by
            rcases Nat.eq_zero_or_pos (i - l.length) with h | h
            · exact h
            · rw [List.getElem?_eq_none (by simp; omega)] at hy; cases hy
          rw [this] at hy
          simp at hy
          subst hy
          obtain rfl : i = k := by omega
          exact ⟨h1, q⟩
    obtain ⟨l, hln, hl'⟩ := key len (Nat.le_refl _)
    refine ⟨(some a, m, l), by simp [hln], by simpa [hln] using hlc, hcm, hcap, ?_, fun x hx => ?_⟩
    · intro hp
      simp at hp
      obtain ⟨x0, hx0⟩ : ∃ x0, l[0]? = some x0 := ⟨_, List.getElem?_eq_getElem (by omega)⟩
      obtain ⟨b, off, e0, hlt, _⟩ := at_of_cells (hl' 0 x0 hx0).1 hs
      obtain ⟨ab, ao, asp⟩ := a
      simp [Addr.add] at e0
      obtain ⟨rfl, rfl, rfl⟩ := e0
      refine ⟨ab, ao, rfl, hlt, fun i cs hi => ?_⟩
      rw [List.getElem?_map] at hi
      obtain ⟨y, hy, rfl⟩ := Option.map_eq_some_iff.1 hi
      obtain ⟨b', off', e1, _, hat⟩ := at_of_cells (hl' i y hy).1 hs
      rw [add_plain] at e1
      simp at e1
      obtain ⟨rfl, rfl⟩ := e1
      exact hat
    · obtain ⟨i, hi⟩ := List.mem_iff_getElem?.1 hx
      exact (hl' i x hi).2

/-- The fields of a struct from one on. -/
def OpensF (P : Program) {α : Type} (fs : List Field) (off tot : Nat) (c : α → List Value) (Q : World → α → Prop) : Prop :=
  ∀ (H : Type) (enc : TypeId × Value → H) (w : World) (n : Nat) (cs : List Value) (xs : List (DataW H × List MemPlace)), cs.length = tot → xs.length = fs.length →
    (∀ (i : Nat) (f : Field), fs[i]? = some f → DataW.trod enc P w 0 (fun _ => true) true n f.type ((cs.drop f.offset).take (P.cellsOf f.type)) = xs[i]?) →
    (∀ k ∈ DataW.weightsEach P (fs.map (·.type)) (xs.map (·.1)), k ≤ reachBytes) → ∃ a, cs.drop off = c a ∧ Q w a
theorem opensF_nil {off tot : Nat} (h : off = tot) : OpensF P [] off tot (fun _ : Unit => []) (fun _ _ => True) := fun H enc w n cs xs hc _ _ _ => ⟨(), by simp [hc, h], trivial⟩
theorem opensF_cons {f : Field} {fs : List Field} {off k tot : Nat} (ho : f.offset = off) (hk : P.cellsOf f.type = k) {c : α → List Value} {Q : World → α → Prop} (h : Opens P f.type c Q) {c' : β → List Value} {Q' : World → β → Prop} (hr : OpensF P fs (off + k) tot c' Q') :
    OpensF P (f :: fs) off tot (fun p : α × β => c p.1 ++ c' p.2) (fun w p => Q w p.1 ∧ Q' w p.2) := fun H enc w n cs xs hc hx hf hl => by
  subst ho hk
  match xs, hx with
  | x :: xs, hx =>
    obtain ⟨a, ha, q⟩ := h H enc w n _ x (by simpa using hf 0 f rfl) (fun k hk => hl k (by simp only [List.map_cons, DataW.weightsEach, List.mem_append]; exact .inl hk))
    obtain ⟨b, hb, q'⟩ := hr H enc w n cs xs hc (by simpa using hx) (fun i g hg => by simpa using hf (i + 1) g (by simpa using hg)) (fun k hk => hl k (by simp only [List.map_cons, DataW.weightsEach, List.mem_append]; exact .inr hk))
    refine ⟨(a, b), ?_, q, q'⟩
    show _ = c a ++ c' b
    rw [← ha, ← hb, ← List.drop_drop, List.take_append_drop]
theorem opens_struct {t : TypeId} {fs : Array Field} {tot : Nat} (ht : P.underlying t = some (.struct fs)) (hc : P.cellsOf t = tot) {c : α → List Value} {Q : World → α → Prop} (h : OpensF P fs.toList 0 tot c Q) : Opens P t c Q := fun H enc w fuel cs x hx hl => by
  obtain ⟨xs, n, rfl, rfl, hlen, hxl, hf⟩ := DataW.trod_struct ht hx
  have := h H enc w n cs xs (by rw [hlen, hc]) (by simpa using hxl) (fun i f hi => hf i f (by simpa using hi)) (fun k hk => hl k (by simp only [DataW.weights, ht]; exact hk))
  simpa using this

/-- An argument, opened. -/
theorem Opens.arg {H : Type} {enc : TypeId × Value → H} {t : TypeId} {c : α → List Value} {Q : World → α → Prop} (h : Opens P t c Q) {W : World} {v : Value} {d : DataW H} {p : List MemPlace} (hv : DataW.Trod enc P W 0 (fun _ => true) true t v d p) (hl : Lim P t d) : ∃ a, v.cells.toList = c a ∧ Q W a := by
  obtain ⟨fuel, hx⟩ := hv
  exact h H enc W fuel _ _ hx hl
end Go.Proofs.YtoibfefalflooaaDoor
namespace Go.Proofs.YtoibfefalflooaaDoor
open Go.ChangeShapes Go.WideShapes Go.ChangeAt Go.RowKit

theorem wf_i64_iff {n : Int} (h : (Lit.int .i64 n).wf = true) : -9223372036854775808 ≤ n ∧ n ≤ 9223372036854775807 := bounds_i64 h

section
variable {H : Type} {enc : TypeId × Value → H} {P : Program} {W : World} {α : Type} {c : α → List Value} {Q : World → α → Prop} {r : Reach} {base : Nat} {t : TypeId} {v : Value} {d : DataW H} {p : List MemPlace}
theorem Opens.agg {fs : Array Field} (h : Opens P t c Q) (ht : P.underlying t = some (.struct fs)) (hv : Value.okWide P W r base t v) (hd : DataW.Trod enc P W 0 (fun _ => true) true t v d p) (hl : Lim P t d) : ∃ a, v = .agg (c a).toArray ∧ Q W a := by
  obtain ⟨cs, rfl, _⟩ := okWide_struct ht hv
  obtain ⟨a, ha, q⟩ := h.arg hd hl
  exact ⟨a, by rw [← ha]; simp [Value.cells], q⟩
theorem Opens.slice {e : TypeId} {β : Type} {f : β → Value} {Q : World → β → Prop} (h : Opens P t (fun b => [f b]) Q) (ht : P.underlying t = some (.slice e)) (hv : Value.okWide P W r base t v) (hd : DataW.Trod enc P W 0 (fun _ => true) true t v d p) (hl : Lim P t d) : ∃ b, v = f b ∧ Q W b := by
  obtain ⟨A, len, cap, rfl⟩ := okWide_slice ht hv
  obtain ⟨b, hb, q⟩ := h.arg hd hl
  exact ⟨b, by simpa [Value.cells] using hb, q⟩
theorem Opens.int {β : Type} {f : β → Value} {Q : World → β → Prop} {k : IntKind} (h : Opens P t (fun b => [f b]) Q) (ht : P.underlying t = some (.int k)) (hv : Value.okWide P W r base t v) (hd : DataW.Trod enc P W 0 (fun _ => true) true t v d p) (hl : Lim P t d) : ∃ b, v = f b ∧ Q W b := by
  obtain ⟨n, rfl⟩ := okWide_int ht hv
  obtain ⟨b, hb, q⟩ := h.arg hd hl
  exact ⟨b, by simpa [Value.cells] using hb, q⟩
theorem Opens.string {β : Type} {f : β → Value} {Q : World → β → Prop} (h : Opens P t (fun b => [f b]) Q) (ht : P.underlying t = some .string) (hv : Value.okWide P W r base t v) (hd : DataW.Trod enc P W 0 (fun _ => true) true t v d p) (hl : Lim P t d) : ∃ b, v = f b ∧ Q W b := by
  obtain ⟨s, rfl⟩ := okWide_string ht hv
  obtain ⟨b, hb, q⟩ := h.arg hd hl
  exact ⟨b, by simpa [Value.cells] using hb, q⟩
theorem Opens.bool {β : Type} {f : β → Value} {Q : World → β → Prop} (h : Opens P t (fun b => [f b]) Q) (ht : P.underlying t = some .bool) (hv : Value.okWide P W r base t v) (hd : DataW.Trod enc P W 0 (fun _ => true) true t v d p) (hl : Lim P t d) : ∃ b, v = f b ∧ Q W b := by
  obtain ⟨s, rfl⟩ := okWide_bool ht hv
  obtain ⟨b, hb, q⟩ := h.arg hd hl
  exact ⟨b, by simpa [Value.cells] using hb, q⟩
end

section
variable {H : Type} {enc : TypeId × Value → H} {P : Program} {W W' : World}
theorem trodAll_stays {sp : Nat → Bool} (hlo : laidOutB P = true) (hb : Below W.heap.size W W') : ∀ {ts : List TypeId} {vs : List Value} {ds : List (DataW H)} {ps : List MemPlace}, DataW.TrodAll enc P W 0 (fun _ => true) true ts vs ds ps →
    (∀ t ∈ ts, P.readableRec t = true ∧ t < P.types.size) → (∀ x ∈ ps, x.block < W.heap.size ∧ sp x.block = true) → DataW.TrodAll enc P W' 0 sp true ts vs ds ps
  | [], vs, ds, ps, h, _, _ => by
    cases vs <;> cases ds <;> simp_all [DataW.TrodAll]
  | t :: ts, vs, ds, ps, h, ht, hp => by
    obtain ⟨v, vs', d, ds', p, q, rfl, rfl, rfl, h0, h1⟩ := trodAll_cons h
    have k := ht t (by simp)
    exact trodAll_cons_mk (WideElems.Trod_stays hlo k.1 k.2 h0 (fun x hx => hb.same (hp x (by simp [hx])).1) (fun x hx => (hp x (by simp [hx])).2)) (trodAll_stays hlo hb h1 (fun t ht' => ht t (by simp [ht'])) (fun x hx => hp x (by simp [hx])))

/-- What the row asks behind a law's call: true, and each argument reads as it read. -/
theorem law_post {fn : Func} {s : ChangeSpec} {tb : TypeId} {args : Array Value} {ds gs : List (DataW H)} {before : List MemPlace} (hlo : laidOutB P = true) (hrd : fn.params.toList.all (fun t => P.readableRec t && decide (t < P.types.size)) = true) (hr : fn.resultTypes = #[tb]) (htb : P.underlying tb = some .bool) (hvars : s.vars = [])
    (hspec : s.fn H ds = { results := [.lit (.bool true)], args := ds }) (hW : DataW.Whole enc P fn.params.toList s.vars false W args.toList ds gs before) (hb : Below W.heap.size W W') : s.post enc P fn false true false false W args (.bool true) W' := by
  obtain ⟨p, q, hA, hV, rfl, hfz, hnd⟩ := id hW
  rw [hvars] at hV
  obtain ⟨rfl, rfl⟩ := trodVars_none hV
  have hlt : ∀ x ∈ p ++ ([] : List MemPlace), x.block < W.heap.size := fun x hx => hW.lt x hx
  refine post_of_below (pa := p) (pv := []) hW (fun b sp hd => ?_) (fun sp hsp => ?_) (fun sp hsp => ?_) rfl hb ?_
  · rw [List.append_nil, hspec, hr]
    exact trodAll_cons_mk (shut_bool htb _) trodAll_mk0
  · rw [List.append_nil, hspec]
    exact trodAll_stays hlo hb hA (fun t ht => by simpa using List.all_eq_true.1 hrd t ht) (fun x hx => ⟨hlt x (by simp [hx]), hsp x (by simp [hx])⟩)
  · rw [List.append_nil, hspec, hvars]
    exact rfl
  · exact ok_one hr rfl (okWide_bool_mk htb _)
theorem lim_each {ts : List TypeId} {ds : List (DataW H)} (h : (DataW.weightsEach P ts ds).all (· ≤ reachBytes) = true) : ∀ n ∈ DataW.weightsEach P ts ds, n ≤ reachBytes := fun n hn => by simpa using List.all_eq_true.1 h n hn
theorem lim_cons {t : TypeId} {ts : List TypeId} {d : DataW H} {ds : List (DataW H)} (h : ∀ n ∈ DataW.weightsEach P (t :: ts) (d :: ds), n ≤ reachBytes) : Lim P t d ∧ ∀ n ∈ DataW.weightsEach P ts ds, n ≤ reachBytes :=
  ⟨fun n hn => h n (by simp only [DataW.weightsEach, List.mem_append]; exact .inl hn), fun n hn => h n (by simp only [DataW.weightsEach, List.mem_append]; exact .inr hn)⟩
end

/-! ### What the bound of the second form gives -/
theorem bulk_one {H : Type} (d : DataW H) : 1 ≤ Rows.uptoBulk d := by
  cases d with
  | lit l => cases l <;> simp [Rows.uptoBulk]
  | nil => simp [Rows.uptoBulk]
  | ptr d => simp [Rows.uptoBulk]
  | slice elems spare => simp [Rows.uptoBulk]
  | agg parts => simp [Rows.uptoBulk]
  | iface t d => simp [Rows.uptoBulk]
  | map entries => simp [Rows.uptoBulk]
  | held h => simp [Rows.uptoBulk]
theorem bulk_len {H : Type} (l : List (DataW H)) : l.length ≤ Rows.uptoBulkAll l := by
  induction l with
  | nil => simp [Rows.uptoBulkAll]
  | cons x r ih => have := bulk_one x; simp only [Rows.uptoBulkAll, List.length_cons]; omega
theorem bulk_all {H : Type} {l : List (DataW H)} (hk : Rows.uptoSmall H l = true) : Rows.uptoBulkAll l ≤ 1048576 := of_decide_eq_true hk
theorem bulk_mem {H : Type} {d : DataW H} {l : List (DataW H)} (h : d ∈ l) : Rows.uptoBulk d ≤ Rows.uptoBulkAll l := by
  induction l with
  | nil => cases h
  | cons x r ih =>
    simp only [Rows.uptoBulkAll]
    cases List.mem_cons.1 h with
    | inl e => subst e; omega
    | inr e => have := ih e; omega
/-- A slice's length is at most its bulk. -/
theorem bulk_slice {H : Type} {enc : TypeId × Value → H} {P : Program} {W : World} {t e : TypeId} {A : Option Addr} {len cap : Nat} {d : DataW H} {p : List MemPlace} (ht : P.underlying t = some (.slice e)) (h : DataW.Trod enc P W 0 (fun _ => true) true t (.slice A len cap) d p) : len ≤ Rows.uptoBulk d ∧ cap ≤ Rows.uptoBulk d := by
  obtain ⟨fuel, hx⟩ := h
  rcases Go.Deep.open_slice ht hx with ⟨h1, h2⟩ | ⟨a, len', cap', m, n, D, Pl, h1, _, hlc, hcm, hm, h2, _⟩
  · simp [Value.cells] at h1
    obtain ⟨_, rfl, rfl⟩ := h1
    exact ⟨Nat.zero_le _, Nat.zero_le _⟩
  · simp [Value.cells] at h1
    obtain ⟨_, rfl, rfl⟩ := h1
    simp only [if_true] at hm
    subst hm
    simp only [Prod.mk.injEq] at h2
    rw [h2.1]
    simp only [Rows.uptoBulk]
    have k1 := bulk_len ((List.range len).map D)
    have k2 := bulk_len ((List.range (m - len)).map fun j => D (len + j))
    simp only [List.length_map, List.length_range] at k1 k2
    omega
end Go.Proofs.YtoibfefalflooaaDoor
namespace Go.Proofs.YtoibfefalflooaaDoor
open Go.ChangeShapes Go.WideShapes Go.ChangeAt Go.RowKit

theorem cells_int : Tryd.prog.cellsOf 3 = 1 := by kernel_rfl
theorem cells_str : Tryd.prog.cellsOf 9 = 1 := by kernel_rfl
theorem o_int : Opens Tryd.prog 3 (fun n : Int => [.int .i64 n]) (fun _ n => (Lit.int .i64 n).wf = true) := opens_int Tryd.underlying3
theorem o_bool : Opens Tryd.prog 4 (fun b : Bool => [.bool b]) (fun _ _ => True) := opens_bool Tryd.underlying4
theorem o_str : Opens Tryd.prog 9 (fun s : ByteArray => [.string s]) (fun _ s => s.size ≤ maxLen ∧ s.size ≤ reachBytes) := opens_string Tryd.underlying9
theorem tab_of {l : List (String × DataW Unit)} {W : World} (e : (l.filter fun x => x.1 == "internal/strconv.uint64pow10") = [("internal/strconv.uint64pow10", Go.Lib.tabData .u64 Go.Lib.pow10Tab)]) (h : laidMetH Tryd.prog l W) : Tab W := by
  have h2 := laidMetH.filter (fun x => x.1 == "internal/strconv.uint64pow10") h
  rw [e] at h2
  exact ⟨Go.Lib.tabIs_of_head (g := 0) (t := 103) (e := 70) (n := 20) (by kernel_rfl) (by kernel_rfl) (by kernel_rfl) (by kernel_rfl) (by kernel_rfl) (by kernel_rfl) h2⟩
end Go.Proofs.YtoibfefalflooaaDoor
