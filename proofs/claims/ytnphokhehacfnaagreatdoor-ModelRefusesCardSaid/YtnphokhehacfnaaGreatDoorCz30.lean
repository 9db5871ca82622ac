/-
  Texts put together: Row, Open, Law, OpSch, FlVal, FlRow.
-/
import Derived.Test.YtnphokhehacfnaaGreatDoorCards
import Derived.Test.YtnphokhehacfnaaGreatDoorTie
import Derived.WalkKit
import Derived.ProofKit
import Derived.OpenShut
import Derived.LaidMore
import Derived.Lay
import Derived.Below
import Derived.ChangeSame
import Derived.SevenTiedAt
import Derived.Stop.Joined
import Derived.Deep.DeepHandedRow
import Derived.Deep.Slices
import Derived.Deep.RegionHeld3
import Derived.Test.YtnphokhehacfnaaGreatDoorCz01
import Derived.Test.YtnphokhehacfnaaGreatDoorCz02
import Derived.Test.YtnphokhehacfnaaGreatDoorCz04
namespace Go.Proofs.YtnphokhehacfnaaGreatDoor
open Go.ChangeShapes Go.WideShapes Go.ChangeAt Go.RowKit

theorem own : ownKnob Tryz.prog.godebug = none := by kernel_rfl

/-- The tables that the rows list. -/
def tables : List (String × DataW Unit) := [("unicode/utf8.acceptRanges", Rows.laid_unicode_utf8_acceptRanges), ("unicode/utf8.first", Rows.laid_unicode_utf8_first)]
noncomputable def tabled (os : Os) : World := World.laidAll Tryz.prog os tables
theorem tabled_shaped (os : Os) (args : Array Value) : ((tabled os).forCall (fun _ _ => 0) ⟨#[], args, []⟩).Shaped Tryz.prog :=
  World.shaped_of_ZipB (by kernel_rfl) (by kernel_rfl)
theorem tabled_met (os : Os) (args : Array Value) : laidMetH Tryz.prog tables ((tabled os).forCall (fun _ _ => 0) ⟨#[], args, []⟩).memory := by
  rw [MakeChecks.laidMetH_plain _ _ _ (by kernel_rfl)]
  exact laidMet_laidAll _ (by kernel_rfl) (by kernel_rfl)

/-- The witness of a row that lists these tables. -/
theorem tabled_witness {H : Type} {enc : TypeId × Value → H} {os : Os} {f : FuncId} {fn : Func} {s : OpenSpec} {conds : List PathCond} {apart : Bool} (args : Array Value) (fuel : Nat)
    {x : List (DataW H) × List (DataW H) × List MemPlace} (hx : DataW.whole enc Tryz.prog ((tabled os).forCall (fun _ _ => 0) ⟨#[], args, []⟩).memory fn.params.toList s.vars apart args.toList fuel = some x)
    (hok : Input.okWideB Tryz.prog ((tabled os).forCall (fun _ _ => 0) ⟨#[], args, []⟩) f ⟨#[], args, []⟩ = true)
    (hconds : conds.all (PathCond.test Tryz.prog ⟨fn.params.toList, x.1, s.bare.plain.varTypes Tryz.prog, x.2.1⟩) = true) (hkk : ∀ k, s.cond = some k → k H (x.1 ++ x.2.1) = true)
    (hsz : s.bare.sizedB enc Tryz.prog fn apart ((tabled os).forCall (fun _ _ => 0) ⟨#[], args, []⟩).memory args fuel = true) :
    ∃ (w : World) (tape : Tape) (i : Input), w.os = os ∧ (w.forCall tape i).Shaped Tryz.prog ∧ i.vars = [] ∧ Input.okWide Tryz.prog (w.forCall tape i) .any w.heap.size f i ∧
      s.preRow enc Tryz.prog fn conds apart tables (w.forCall tape i).memory i.args ∧ ({ modest := false } : Assume).holds Tryz.prog (lone (Frame.enter Tryz.prog f i.args .normal) [] (w.forCall tape i)) :=
  ⟨tabled os, fun _ _ => 0, ⟨#[], args, []⟩, World.laidAll_os _ _ _, tabled_shaped os args, (Input.okWide_of_okWideB (base := 0) hok).1, (Input.okWide_of_okWideB hok).2,
    OpenSpec.preRow_of_cond fuel hx hconds hkk hsz (tabled_met os args), by
    simp only [Assume.holds]
    exact ⟨by simp, by simp, fun _ => Modest.zero, by simp, by simp⟩⟩

section
variable {H : Type} {enc : TypeId × Value → H} {P : Program}
theorem post_of_below {f : Func} {s : ChangeSpec} {apart fresh handsOn again : Bool} {W W' : World} {args : Array Value} {v : Value} {ds gs : List (DataW H)} {before pa pv : List MemPlace}
    (hW : DataW.Whole enc P f.params.toList s.vars apart W args.toList ds gs before)
    (hres : ∀ (b : Nat) (sp : Nat → Bool) (hd : Bool), DataW.TrodAll enc P W' b sp hd f.resultTypes.toList (v.resultList f.resultTypes.size) (s.fn H (ds ++ gs)).results [])
    (hargs : ∀ sp : Nat → Bool, (∀ p ∈ before, sp p.block = true) → DataW.TrodAll enc P W' 0 sp true f.params.toList args.toList (s.fn H (ds ++ gs)).args pa)
    (hvars : ∀ sp : Nat → Bool, (∀ p ∈ before, sp p.block = true) → DataW.TrodVars enc P W' sp s.vars (s.fn H (ds ++ gs)).vars pv)
    (hps : before = pa ++ pv) (hb : Below W.heap.size W W')
    (hok : ∀ (j : Nat) (t : TypeId) (r : Value), f.resultTypes[j]? = some t → (v.resultList f.resultTypes.size)[j]? = some r → Value.okWide P W' .any 0 t r) :
    s.post enc P f apart fresh handsOn again W args v W' := by
  have hlt : ∀ p ∈ before, p.block < W.heap.size := fun p hp => hW.lt p hp
  have hold : ∀ p ∈ before, (fun b => decide (b < W.heap.size)) p.block = true := fun p hp => by simpa using hlt p hp
  refine ⟨ds, gs, before, [], pa, pv, hW, hres _ _ _, hargs _ hold, hvars _ hold, World.keptBut_mono (fun p hp => ⟨hp, ?_⟩) (hb.frame (· ∈ before)), fun _ => ?_⟩
  · rw [hps, List.mem_append] at hp
    exact Or.inr hp
  · obtain ⟨_, _, _, _, _, hz, hn⟩ := hW
    refine ⟨hok, _, _, ([] ++ pa) ++ pv, ⟨[] ++ pa, pv, trodAll_append (hargs _ (fun _ _ => rfl)) (hres _ _ _), hvars _ (fun _ _ => rfl), rfl, ?_, ?_⟩, ?_⟩
    · intro b off hp
      have hin : MemPlace.cell b off ∈ before := by rw [hps]; simpa using hp
      rw [hb.frozen (hlt _ hin)]
      exact hz b off hin
    · intro ha
      have := hn ha
      rw [hps] at this
      simpa using this
    · intro p hp _
      rw [hps]
      simpa using hp
end
end Go.Proofs.YtnphokhehacfnaaGreatDoor

namespace Go.Proofs.YtnphokhehacfnaaGreatDoor
open Go.ChangeShapes Go.WideShapes Go.ChangeAt Go.RowKit

/-- Nothing that is read here is of more bytes than the form's reach. -/
def Lim (P : Program) {H : Type} (t : TypeId) (d : DataW H) : Prop := ∀ n ∈ d.weights P t, n ≤ reachBytes

/-- Cells that read as a datum of type t are those of some a. -/
def Opens (P : Program) {α : Type} (t : TypeId) (c : α → List Value) (Q : World → α → Prop) : Prop :=
  ∀ (H : Type) (enc : TypeId × Value → H) (w : World) (fuel : Nat) (cs : List Value) (x : DataW H × List MemPlace), DataW.trod enc P w 0 (fun _ => true) true fuel t cs = some x → Lim P t x.1 → ∃ a, cs = c a ∧ Q w a

variable {P : Program} {α β : Type}
theorem Opens.map {t : TypeId} {c : α → List Value} {Q : World → α → Prop} (h : Opens P t c Q) (f : α → β) {c' : β → List Value} {Q' : World → β → Prop} (hc : ∀ a, c a = c' (f a)) (hQ : ∀ w a, Q w a → Q' w (f a)) : Opens P t c' Q' :=
  fun H enc w fuel cs x hx hl => by
    obtain ⟨a, rfl, q⟩ := h H enc w fuel cs x hx hl
    exact ⟨f a, hc a, hQ w a q⟩
theorem opens_int {t : TypeId} (ht : P.underlying t = some (.int .i64)) : Opens P t (fun n : Int => [.int .i64 n]) (fun _ n => (Lit.int .i64 n).wf = true) := fun H enc w fuel cs x hx _ => by
  obtain ⟨n, rfl, _, hwf⟩ := DataW.trod_int ht hx
  exact ⟨n, rfl, hwf⟩
theorem weightsAll_mem {H : Type} {e : TypeId} {d : DataW H} {n : Nat} : ∀ {l : List (DataW H)}, d ∈ l → n ∈ d.weights P e → n ∈ DataW.weightsAll P e l
  | [], h, _ => by simp at h
  | x :: r, h, hn => by
    simp only [DataW.weightsAll, List.mem_append]
    rcases List.mem_cons.1 h with rfl | h
    · exact .inl hn
    · exact .inr (weightsAll_mem h hn)

theorem at_of_cells {w : World} {base : Nat} {a : Addr} {n : Nat} {cs : List Value} (h : w.cells? base a n = some cs) (hn : 0 < n) : ∃ b off, a = ⟨b, off, none⟩ ∧ b < w.heap.size ∧ At w b off cs := by
  obtain ⟨_, hlen, hc⟩ := World.cells?_some h
  obtain ⟨b, off, spot⟩ := a
  have h0 := hc 0 hn
  obtain ⟨u, hu⟩ : ∃ u, w.cell? (Addr.add ⟨b, off, spot⟩ 0) = some u := by
    rw [h0]
    exact ⟨_, List.getElem?_eq_getElem (by omega)⟩
  have hspot : spot = none := by simpa [Addr.add] using World.cell?_spot hu
  subst hspot
  refine ⟨b, off, rfl, ?_, fun j v hj => ?_⟩
  · have := World.block_lt_of_cell? w _ hu
    simpa [Addr.add] using this
  · have hj' : j < n := by have := (List.getElem?_eq_some_iff.1 hj).1; omega
    have := hc j hj'
    rw [hj, add_plain] at this
    exact this

theorem opens_slice {t e : TypeId} {size bytes : Nat} (ht : P.underlying t = some (.slice e)) (hc : P.cellsOf e = size) (hs : 0 < size) (hb : P.bytesOf e = bytes) {c : α → List Value} {Q : World → α → Prop} (he : Opens P e c Q) :
    Opens P t (fun p : Option Addr × Nat × List α => [.slice p.1 p.2.2.length p.2.1]) (fun w p => p.2.2.length ≤ p.2.1 ∧ p.2.1 ≤ maxLen ∧ p.2.1 * bytes ≤ reachBytes ∧ SlAt w w.heap.size size p.1 (p.2.2.map c) ∧ ∀ a ∈ p.2.2, Q w a) := fun H enc w fuel cs x hx hl => by
  subst hc hb
  rcases Go.Deep.open_slice ht hx with ⟨rfl, rfl⟩ | ⟨a, len, cap, m, n, D, Pl, rfl, _, hlc, hcm, hm, rfl, hel⟩
  · exact ⟨(none, 0, []), rfl, Nat.le_refl _, by simp [maxLen], by simp [reachBytes], SlAt.nil_, by simp⟩
  · simp only [if_true] at hm
    subst hm
    have hw : ∀ i, i < m → Lim P e (D i) := fun i hi k hk => by
      refine hl k ?_
      simp only [DataW.weights, ht]
      refine List.mem_cons_of_mem _ (List.mem_append.2 ?_)
      by_cases h : i < len
      · exact .inl (weightsAll_mem (List.mem_map.2 ⟨i, by simpa using h, rfl⟩) hk)
      · exact .inr (weightsAll_mem (List.mem_map.2 ⟨i - len, by simp; omega, by congr 1; omega⟩) hk)
    have hcap : m * P.bytesOf e ≤ reachBytes := by
      refine hl _ ?_
      simp only [DataW.weights, ht]
      refine List.mem_cons.2 (.inl ?_)
      congr 1
      simp
      omega
    have key : ∀ k, k ≤ len → ∃ l : List α, l.length = k ∧ (∀ i x, l[i]? = some x → w.cells? 0 (a.add (i * P.cellsOf e)) (P.cellsOf e) = some (c x) ∧ Q w x) := by
      intro k
      induction k with
      | zero => exact fun _ => ⟨[], rfl, fun i x h => by simp at h⟩
      | succ k ih =>
        intro hk
        obtain ⟨l, hln, hl'⟩ := ih (by omega)
        obtain ⟨cs', h1, h2⟩ := hel k (by omega)
        obtain ⟨x, rfl, q⟩ := he H enc w n cs' _ h2 (hw k (by omega))
        refine ⟨l ++ [x], by simp [hln], fun i y hy => ?_⟩
        rw [List.getElem?_append] at hy
        split at hy
        · exact hl' i y hy
        · have : i - l.length = 0 := by
            rcases Nat.eq_zero_or_pos (i - l.length) with h | h
            · exact h
            · rw [List.getElem?_eq_none (by simp; omega)] at hy; cases hy
          rw [this] at hy
          simp at hy
          subst hy
          obtain rfl : i = k := by omega
          exact ⟨h1, q⟩
    obtain ⟨l, hln, hl'⟩ := key len (Nat.le_refl _)
    refine ⟨(some a, m, l), by simp [hln], by simpa [hln] using hlc, hcm, hcap, ?_, fun x hx => ?_⟩
    · intro hp
      simp at hp
      obtain ⟨x0, hx0⟩ : ∃ x0, l[0]? = some x0 := ⟨_, List.getElem?_eq_getElem (by omega)⟩
      obtain ⟨b, off, e0, hlt, _⟩ := at_of_cells (hl' 0 x0 hx0).1 hs
      obtain ⟨ab, ao, asp⟩ := a
      simp [Addr.add] at e0
      obtain ⟨rfl, rfl, rfl⟩ := e0
      refine ⟨ab, ao, rfl, hlt, fun i cs hi => ?_⟩
      rw [List.getElem?_map] at hi
      obtain ⟨y, hy, rfl⟩ := Option.map_eq_some_iff.1 hi
      obtain ⟨b', off', e1, _, hat⟩ := at_of_cells (hl' i y hy).1 hs
      rw [add_plain] at e1
      simp at e1
      obtain ⟨rfl, rfl⟩ := e1
      exact hat
    · obtain ⟨i, hi⟩ := List.mem_iff_getElem?.1 hx
      exact (hl' i x hi).2

/-- The fields of a struct from one on. -/
def OpensF (P : Program) {α : Type} (fs : List Field) (off tot : Nat) (c : α → List Value) (Q : World → α → Prop) : Prop :=
  ∀ (H : Type) (enc : TypeId × Value → H) (w : World) (n : Nat) (cs : List Value) (xs : List (DataW H × List MemPlace)), cs.length = tot → xs.length = fs.length →
    (∀ (i : Nat) (f : Field), fs[i]? = some f → DataW.trod enc P w 0 (fun _ => true) true n f.type ((cs.drop f.offset).take (P.cellsOf f.type)) = xs[i]?) →
    (∀ k ∈ DataW.weightsEach P (fs.map (·.type)) (xs.map (·.1)), k ≤ reachBytes) → ∃ a, cs.drop off = c a ∧ Q w a
/-- An argument, opened. -/
theorem Opens.arg {H : Type} {enc : TypeId × Value → H} {t : TypeId} {c : α → List Value} {Q : World → α → Prop} (h : Opens P t c Q) {W : World} {v : Value} {d : DataW H} {p : List MemPlace} (hv : DataW.Trod enc P W 0 (fun _ => true) true t v d p) (hl : Lim P t d) : ∃ a, v.cells.toList = c a ∧ Q W a := by
  obtain ⟨fuel, hx⟩ := hv
  exact h H enc W fuel _ _ hx hl
end Go.Proofs.YtnphokhehacfnaaGreatDoor

namespace Go.Proofs.YtnphokhehacfnaaGreatDoor
open Go.ChangeShapes Go.WideShapes Go.ChangeAt Go.RowKit

section
variable {H : Type} {enc : TypeId × Value → H} {P : Program} {W : World} {α : Type} {c : α → List Value} {Q : World → α → Prop} {r : Reach} {base : Nat} {t : TypeId} {v : Value} {d : DataW H} {p : List MemPlace}
theorem Opens.agg {fs : Array Field} (h : Opens P t c Q) (ht : P.underlying t = some (.struct fs)) (hv : Value.okWide P W r base t v) (hd : DataW.Trod enc P W 0 (fun _ => true) true t v d p) (hl : Lim P t d) : ∃ a, v = .agg (c a).toArray ∧ Q W a := by
  obtain ⟨cs, rfl, _⟩ := okWide_struct ht hv
  obtain ⟨a, ha, q⟩ := h.arg hd hl
  exact ⟨a, by rw [← ha]; simp [Value.cells], q⟩
theorem Opens.slice {e : TypeId} {β : Type} {f : β → Value} {Q : World → β → Prop} (h : Opens P t (fun b => [f b]) Q) (ht : P.underlying t = some (.slice e)) (hv : Value.okWide P W r base t v) (hd : DataW.Trod enc P W 0 (fun _ => true) true t v d p) (hl : Lim P t d) : ∃ b, v = f b ∧ Q W b := by
  obtain ⟨A, len, cap, rfl⟩ := okWide_slice ht hv
  obtain ⟨b, hb, q⟩ := h.arg hd hl
  exact ⟨b, by simpa [Value.cells] using hb, q⟩
theorem Opens.int {β : Type} {f : β → Value} {Q : World → β → Prop} {k : IntKind} (h : Opens P t (fun b => [f b]) Q) (ht : P.underlying t = some (.int k)) (hv : Value.okWide P W r base t v) (hd : DataW.Trod enc P W 0 (fun _ => true) true t v d p) (hl : Lim P t d) : ∃ b, v = f b ∧ Q W b := by
  obtain ⟨n, rfl⟩ := okWide_int ht hv
  obtain ⟨b, hb, q⟩ := h.arg hd hl
  exact ⟨b, by simpa [Value.cells] using hb, q⟩
theorem Opens.string {β : Type} {f : β → Value} {Q : World → β → Prop} (h : Opens P t (fun b => [f b]) Q) (ht : P.underlying t = some .string) (hv : Value.okWide P W r base t v) (hd : DataW.Trod enc P W 0 (fun _ => true) true t v d p) (hl : Lim P t d) : ∃ b, v = f b ∧ Q W b := by
  obtain ⟨s, rfl⟩ := okWide_string ht hv
  obtain ⟨b, hb, q⟩ := h.arg hd hl
  exact ⟨b, by simpa [Value.cells] using hb, q⟩
theorem Opens.bool {β : Type} {f : β → Value} {Q : World → β → Prop} (h : Opens P t (fun b => [f b]) Q) (ht : P.underlying t = some .bool) (hv : Value.okWide P W r base t v) (hd : DataW.Trod enc P W 0 (fun _ => true) true t v d p) (hl : Lim P t d) : ∃ b, v = f b ∧ Q W b := by
  obtain ⟨s, rfl⟩ := okWide_bool ht hv
  obtain ⟨b, hb, q⟩ := h.arg hd hl
  exact ⟨b, by simpa [Value.cells] using hb, q⟩
end

section
variable {H : Type} {enc : TypeId × Value → H} {P : Program} {W W' : World}
theorem trodAll_stays {sp : Nat → Bool} (hlo : laidOutB P = true) (hb : Below W.heap.size W W') : ∀ {ts : List TypeId} {vs : List Value} {ds : List (DataW H)} {ps : List MemPlace}, DataW.TrodAll enc P W 0 (fun _ => true) true ts vs ds ps →
    (∀ t ∈ ts, P.readableRec t = true ∧ t < P.types.size) → (∀ x ∈ ps, x.block < W.heap.size ∧ sp x.block = true) → DataW.TrodAll enc P W' 0 sp true ts vs ds ps
  | [], vs, ds, ps, h, _, _ => by
    cases vs <;> cases ds <;> simp_all [DataW.TrodAll]
  | t :: ts, vs, ds, ps, h, ht, hp => by
    obtain ⟨v, vs', d, ds', p, q, rfl, rfl, rfl, h0, h1⟩ := trodAll_cons h
    have k := ht t (by simp)
    exact trodAll_cons_mk (WideElems.Trod_stays hlo k.1 k.2 h0 (fun x hx => hb.same (hp x (by simp [hx])).1) (fun x hx => (hp x (by simp [hx])).2)) (trodAll_stays hlo hb h1 (fun t ht' => ht t (by simp [ht'])) (fun x hx => hp x (by simp [hx])))

/-- What the row asks behind a law's call: true, and each argument reads as it read. -/
theorem law_post {fn : Func} {s : ChangeSpec} {tb : TypeId} {args : Array Value} {ds gs : List (DataW H)} {before : List MemPlace} (hlo : laidOutB P = true) (hrd : fn.params.toList.all (fun t => P.readableRec t && decide (t < P.types.size)) = true) (hr : fn.resultTypes = #[tb]) (htb : P.underlying tb = some .bool) (hvars : s.vars = [])
    (hspec : s.fn H ds = { results := [.lit (.bool true)], args := ds }) (hW : DataW.Whole enc P fn.params.toList s.vars false W args.toList ds gs before) (hb : Below W.heap.size W W') : s.post enc P fn false true false false W args (.bool true) W' := by
  obtain ⟨p, q, hA, hV, rfl, hfz, hnd⟩ := id hW
  rw [hvars] at hV
  obtain ⟨rfl, rfl⟩ := trodVars_none hV
  have hlt : ∀ x ∈ p ++ ([] : List MemPlace), x.block < W.heap.size := fun x hx => hW.lt x hx
  refine post_of_below (pa := p) (pv := []) hW (fun b sp hd => ?_) (fun sp hsp => ?_) (fun sp hsp => ?_) rfl hb ?_
  · rw [List.append_nil, hspec, hr]
    exact trodAll_cons_mk (shut_bool htb _) trodAll_mk0
  · rw [List.append_nil, hspec]
    exact trodAll_stays hlo hb hA (fun t ht => by simpa using List.all_eq_true.1 hrd t ht) (fun x hx => ⟨hlt x (by simp [hx]), hsp x (by simp [hx])⟩)
  · rw [List.append_nil, hspec, hvars]
    exact rfl
  · exact ok_one hr rfl (okWide_bool_mk htb _)
theorem lim_each {ts : List TypeId} {ds : List (DataW H)} (h : (DataW.weightsEach P ts ds).all (· ≤ reachBytes) = true) : ∀ n ∈ DataW.weightsEach P ts ds, n ≤ reachBytes := fun n hn => by simpa using List.all_eq_true.1 h n hn
theorem lim_cons {t : TypeId} {ts : List TypeId} {d : DataW H} {ds : List (DataW H)} (h : ∀ n ∈ DataW.weightsEach P (t :: ts) (d :: ds), n ≤ reachBytes) : Lim P t d ∧ ∀ n ∈ DataW.weightsEach P ts ds, n ≤ reachBytes :=
  ⟨fun n hn => h n (by simp only [DataW.weightsEach, List.mem_append]; exact .inl hn), fun n hn => h n (by simp only [DataW.weightsEach, List.mem_append]; exact .inr hn)⟩
end

/-! ### What the bound of the second form gives -/
end Go.Proofs.YtnphokhehacfnaaGreatDoor

namespace Go.Proofs.YtnphokhehacfnaaGreatDoor
open Go.ChangeShapes Go.WideShapes Go.ChangeAt Go.RowKit

theorem o_int : Opens Tryz.prog 3 (fun n : Int => [.int .i64 n]) (fun _ n => (Lit.int .i64 n).wf = true) := opens_int Tryz.underlying3
theorem o_ints : Opens Tryz.prog 68 (fun p : Option Addr × Nat × List Int => [.slice p.1 p.2.2.length p.2.1])
    (fun w p => p.2.2.length ≤ p.2.1 ∧ p.2.1 ≤ 17592186043904 ∧ SlAt w w.heap.size 1 p.1 (intCells p.2.2) ∧ ∀ n ∈ p.2.2, -9223372036854775808 ≤ n ∧ n ≤ 9223372036854775807) :=
  (opens_slice Tryz.underlying68 (size := 1) (bytes := 8) (by kernel_rfl) (by decide) (by kernel_rfl) o_int).map id (fun _ => rfl) (fun w p h => ⟨h.1, by have := h.2.2.1; simp only [reachBytes] at this; simp only [id]; omega, h.2.2.2.1, fun n hn => bounds_i64 (h.2.2.2.2 n hn)⟩)
end Go.Proofs.YtnphokhehacfnaaGreatDoor

namespace Go.Proofs.YtnphokhehacfnaaGreatDoor
open Go.RowKit

/-- What marks the room behind a slice that is lent. -/
def Val.mark : Val := ⟨77777, 0, false, .empty⟩

theorem sameValues_any {w1 w2 : World} (l : List Val) (A1 A2 : Option Addr) (c1 c2 : Nat) (w : World) (h1 : SlAt w1 w1.heap.size 4 A1 (l.map Val.cells)) (h2 : SlAt w2 w2.heap.size 4 A2 (l.map Val.cells)) [f1 : Fut w1 w] [f2 : Fut w2 w] (hl : l.length ≤ 4611686018427387904) :
    Calls Tryz.prog 51 #[.slice A1 l.length c1, .slice A2 l.length c2] w fun e w' => e = .returned (.bool true) ∧ Step w w' := by
  have z1 := f1.below.size
  have z2 := f2.below.size
  go_enter Tryz.func51, Tryz.ntmps51
  go_wp2
  go_loopw [5] (fun i wr => ∃ k : Nat, k ≤ l.length ∧ i = .int .i64 k ∧ Step w wr) (fun i _ => l.length - (intOf i).toNat)
  case atStart => exact ⟨0, Nat.zero_le _, rfl, Step.of⟩
  case round =>
    obtain ⟨k, hk, rfl, hs⟩ := hrel
    by_cases hlt : k < l.length
    · obtain ⟨b1, o1, rfl, hb1, hc1⟩ := h1.elem (w' := wr) inferInstance (k := k) (by simpa using hlt)
      obtain ⟨b2, o2, rfl, hb2, hc2⟩ := h2.elem (w' := wr) inferInstance (k := k) (by simpa using hlt)
      obtain ⟨x, hx⟩ : ∃ x, l[k]? = some x := ⟨_, List.getElem?_eq_getElem hlt⟩
      obtain ⟨p0, p1, p2, p3⟩ := At.l4 (hc1 k x.cells (by simp [hx]))
      obtain ⟨q0, q1, q2, q3⟩ := At.l4 (hc2 k x.cells (by simp [hx]))
      clear hc1 hc2 hx
      go_wp2
      go_quiet (fail)
      go_wp2
      go_roundw
      case rel => exact ⟨k + 1, by omega, by go_num, Step.of⟩
      case measure => simp [intOf]; omega
    · go_wp2_with fail
      go_ret
      exact ⟨rfl, hs⟩

end Go.Proofs.YtnphokhehacfnaaGreatDoor

namespace Go.Proofs.YtnphokhehacfnaaGreatDoor
open Go.RowKit

set_option maxRecDepth 100000 in
set_option maxHeartbeats 4000000 in
theorem sameRows_any {w1 w2 : World} (rs ts : List RowA) (A1 A2 : Option Addr) (c1 c2 : Nat) (w : World) (h1 : RowsIn w1 rs A1 c1) (h2 : RowsIn w2 ts A2 c2) (he : rs.map RowA.vs = ts.map RowA.vs) [f1 : Fut w1 w] [f2 : Fut w2 w] :
    Calls Tryz.prog 17 #[.slice A1 rs.length c1, .slice A2 ts.length c2] w fun e w' => e = .returned (.bool true) ∧ Step w w' := by
  have z1 := f1.below.size; have z2 := f2.below.size
  have hl : rs.length = ts.length := by have := congrArg List.length he; simpa using this
  have hrl := h1.hcapm
  have HE := hide he
  have HL := hide hl
  rw [← hl]
  clear he hl
  go_enter Tryz.func17, Tryz.ntmps17
  go_wp2_with fail
  go_loopw [5] (fun i wr => ∃ k : Nat, k ≤ rs.length ∧ i = .int .i64 k ∧ Step w wr) (fun i _ => rs.length - (intOf i).toNat)
  case atStart => exact ⟨0, Nat.zero_le _, rfl, Step.of⟩
  case round =>
    obtain ⟨k, hk, rfl, hst⟩ := hrel
    obtain ⟨wo, rfl⟩ : ∃ x : World, x = wr := ⟨_, rfl⟩
    have hzo := hst.size
    by_cases hlt : k < rs.length
    · obtain ⟨b1, o1, hA1, hb1, r, hr, hri, p0⟩ := h1.row (w' := wo) inferInstance hlt
      obtain ⟨b2, o2, hA2, hb2, t, ht, hti, q0⟩ := h2.row (w' := wo) inferInstance (k := k) (by rw [← HL.out]; exact hlt)
      have hrt : r.vs = t.vs := by
        have h3 : (rs.map RowA.vs)[k]? = some r.vs := by simp [hr]
        have h4 : (ts.map RowA.vs)[k]? = some t.vs := by simp [ht]
        rw [HE.out, h4] at h3
        injection h3 with h3
        exact h3.symm
      have hta := hti.at_
      rw [← hrt] at q0 hta
      have hrm := hri.hcapm
      have SV := hide (fun w' [Fut w1 w'] [Fut w2 w'] => sameValues_any r.vs r.A t.A r.cap t.cap w' hri.at_ hta (by omega))
      have hkl : (k : Int) < (rs.length : Int) := by omega
      have hk0 : (0 : Int) ≤ (k : Int) := by omega
      have l1 : b1 < wo.heap.size := by omega
      have l2 : b2 < wo.heap.size := by omega
      rw [hA1, hA2]
      clear hr ht hrt hta hA1 hA2
      go_upto_region 6 with (fail)
      refine wp_region_held_drew (S := (fun w' => Step wo w' ∧ (∀ b o, b < wo.heap.size → w'.cell? ⟨b, o, none⟩ = wo.cell? ⟨b, o, none⟩))) (by kernel_rfl) (by (try dsimp only); (first | exact ⟨hS1, hS2⟩ | exact ⟨Step.of, (bcell (fut _ _)).1⟩)) (fun hHeld => ?_)
      refine wT 0 17 (by assumption) ?_
      refine wT 1 18 (by assumption) ?_
      refine wT 5 22 (by assumption) ?_
      refine wT 6 23 (by assumption) ?_
      refine wT 2 19 (by assumption) ?_
      refine wT 7 24 (by assumption) ?_
      refine wT 3 20 (by assumption) ?_
      refine wT 8 25 (by assumption) ?_
      refine wT 4 21 (by assumption) ?_
      refine wT 9 26 (by assumption) ?_
      refine wpAnyH_ready (rs := [10]) (by kernel_rfl) (by simp) ?_
      refine AllReadyH.cons (o := ⟨some 27, _, _, _, _, _⟩) rfl (fun K hK => ?_) AllReadyH.nil
      obtain ⟨hS1, hS2⟩ := hHeld
      go_simp
      (go_at_call 51; (with_reducible refine (SV.out _).mono ?_); rintro e w5 ⟨rfl, hs5⟩)
      refine hK.out _ _ (by (try dsimp only); (first | exact ⟨hS1, hS2⟩ | exact ⟨Step.of, (bcell (fut _ _)).1⟩)) (fun hHeld => ?_)
      clear hK K
      (try simp only [Act.put, List.setIfInBounds_toArray, List.set_cons_zero, List.set_cons_succ])
      refine wT 11 28 (by assumption) ?_
      refine wpAnyH_done (by kernel_rfl) ?_ _
      go_wp2_with fail
      go_roundw
      case rel => exact ⟨k + 1, by omega, by go_num, Step.of⟩
      case measure => simp [intOf]; omega
    · go_wp2_with fail
      go_ret
      exact ⟨rfl, hst⟩
end Go.Proofs.YtnphokhehacfnaaGreatDoor

