/-
  Texts put together: Open, Law, A, Trim, B, C, Si, OpSch, Yu.
-/
import Derived.Deep.Slices
import Derived.Shelf.Strings.SlTrimAscii
import Derived.Test.YtnphokhehacfnaaGreatDoorProg
import Derived.Laws.BitsAllLaws
import Derived.Test.YtnphokhehacfnaaGreatDoorPz00
namespace Go.Proofs.YtnphokhehacfnaaGreatDoor
open Go.ChangeShapes Go.WideShapes Go.ChangeAt Go.RowKit

/-- Nothing that is read here is of more bytes than the form's reach. -/
def Lim (P : Program) {H : Type} (t : TypeId) (d : DataW H) : Prop := ∀ n ∈ d.weights P t, n ≤ reachBytes

/-- Cells that read as a datum of type t are those of some a. -/
def Opens (P : Program) {α : Type} (t : TypeId) (c : α → List Value) (Q : World → α → Prop) : Prop :=
  ∀ (H : Type) (enc : TypeId × Value → H) (w : World) (fuel : Nat) (cs : List Value) (x : DataW H × List MemPlace), DataW.trod enc P w 0 (fun _ => true) true fuel t cs = some x → Lim P t x.1 → ∃ a, cs = c a ∧ Q w a

variable {P : Program} {α β : Type}
theorem Opens.map {t : TypeId} {c : α → List Value} {Q : World → α → Prop} (h : Opens P t c Q) (f : α → β) {c' : β → List Value} {Q' : World → β → Prop} (hc : ∀ a, c a = c' (f a)) (hQ : ∀ w a, Q w a → Q' w (f a)) : Opens P t c' Q' :=
  fun H enc w fuel cs x hx hl => by
    obtain ⟨a, rfl, q⟩ := h H enc w fuel cs x hx hl
    exact ⟨f a, hc a, hQ w a q⟩
theorem opens_int {t : TypeId} (ht : P.underlying t = some (.int .i64)) : Opens P t (fun n : Int => [.int .i64 n]) (fun _ n => (Lit.int .i64 n).wf = true) := fun H enc w fuel cs x hx _ => by
  obtain ⟨n, rfl, _, hwf⟩ := DataW.trod_int ht hx
  exact ⟨n, rfl, hwf⟩
theorem weightsAll_mem {H : Type} {e : TypeId} {d : DataW H} {n : Nat} : ∀ {l : List (DataW H)}, d ∈ l → n ∈ d.weights P e → n ∈ DataW.weightsAll P e l
  | [], h, _ => by simp at h
  | x :: r, h, hn => by
    simp only [DataW.weightsAll, List.mem_append]
    rcases List.mem_cons.1 h with rfl | h
    · exact .inl hn
    · exact .inr (weightsAll_mem h hn)

theorem at_of_cells {w : World} {base : Nat} {a : Addr} {n : Nat} {cs : List Value} (h : w.cells? base a n = some cs) (hn : 0 < n) : ∃ b off, a = ⟨b, off, none⟩ ∧ b < w.heap.size ∧ At w b off cs := by
  obtain ⟨_, hlen, hc⟩ := World.cells?_some h
  obtain ⟨b, off, spot⟩ := a
  have h0 := hc 0 hn
  obtain ⟨u, hu⟩ : ∃ u, w.cell? (Addr.add ⟨b, off, spot⟩ 0) = some u := by
    rw [h0]
    exact ⟨_, List.getElem?_eq_getElem (by omega)⟩
  have hspot : spot = none := by simpa [Addr.add] using World.cell?_spot hu
  subst hspot
  refine ⟨b, off, rfl, ?_, fun j v hj => ?_⟩
  · have := World.block_lt_of_cell? w _ hu
    simpa [Addr.add] using this
  · have hj' : j < n := by have := (List.getElem?_eq_some_iff.1 hj).1; omega
    have := hc j hj'
    rw [hj, add_plain] at this
    exact this

theorem opens_slice {t e : TypeId} {size bytes : Nat} (ht : P.underlying t = some (.slice e)) (hc : P.cellsOf e = size) (hs : 0 < size) (hb : P.bytesOf e = bytes) {c : α → List Value} {Q : World → α → Prop} (he : Opens P e c Q) :
    Opens P t (fun p : Option Addr × Nat × List α => [.slice p.1 p.2.2.length p.2.1]) (fun w p => p.2.2.length ≤ p.2.1 ∧ p.2.1 ≤ maxLen ∧ p.2.1 * bytes ≤ reachBytes ∧ SlAt w w.heap.size size p.1 (p.2.2.map c) ∧ ∀ a ∈ p.2.2, Q w a) := fun H enc w fuel cs x hx hl => by
  subst hc hb
  rcases Go.Deep.open_slice ht hx with ⟨rfl, rfl⟩ | ⟨a, len, cap, m, n, D, Pl, rfl, _, hlc, hcm, hm, rfl, hel⟩
  · exact ⟨(none, 0, []), rfl, Nat.le_refl _, by simp [maxLen], by simp [reachBytes], SlAt.nil_, by simp⟩
  · simp only [if_true] at hm
    subst hm
    have hw : ∀ i, i < m → Lim P e (D i) := fun i hi k hk => by
      refine hl k ?_
      simp only [DataW.weights, ht]
      refine List.mem_cons_of_mem _ (List.mem_append.2 ?_)
      by_cases h : i < len
      · exact .inl (weightsAll_mem (List.mem_map.2 ⟨i, by simpa using h, rfl⟩) hk)
      · exact .inr (weightsAll_mem (List.mem_map.2 ⟨i - len, by simp; omega, by congr 1; omega⟩) hk)
    have hcap : m * P.bytesOf e ≤ reachBytes := by
      refine hl _ ?_
      simp only [DataW.weights, ht]
      refine List.mem_cons.2 (.inl ?_)
      congr 1
      simp
      omega
    have key : ∀ k, k ≤ len → ∃ l : List α, l.length = k ∧ (∀ i x, l[i]? = some x → w.cells? 0 (a.add (i * P.cellsOf e)) (P.cellsOf e) = some (c x) ∧ Q w x) := by
      intro k
      induction k with
      | zero => exact fun _ => ⟨[], rfl, fun i x h => by simp at h⟩
      | succ k ih =>
        intro hk
        obtain ⟨l, hln, hl'⟩ := ih (by omega)
        obtain ⟨cs', h1, h2⟩ := hel k (by omega)
        obtain ⟨x, rfl, q⟩ := he H enc w n cs' _ h2 (hw k (by omega))
        refine ⟨l ++ [x], by simp [hln], fun i y hy => ?_⟩
        rw [List.getElem?_append] at hy
        split at hy
        · exact hl' i y hy
        · have : i - l.length = 0 := by
            rcases Nat.eq_zero_or_pos (i - l.length) with h | h
            · exact h
            · rw [List.getElem?_eq_none (by simp; omega)] at hy; cases hy
          rw [this] at hy
          simp at hy
          subst hy
          obtain rfl : i = k := by omega
          exact ⟨h1, q⟩
    obtain ⟨l, hln, hl'⟩ := key len (Nat.le_refl _)
    refine ⟨(some a, m, l), by simp [hln], by simpa [hln] using hlc, hcm, hcap, ?_, fun x hx => ?_⟩
    · intro hp
      simp at hp
      obtain ⟨x0, hx0⟩ : ∃ x0, l[0]? = some x0 := ⟨_, List.getElem?_eq_getElem (by omega)⟩
      obtain ⟨b, off, e0, hlt, _⟩ := at_of_cells (hl' 0 x0 hx0).1 hs
      obtain ⟨ab, ao, asp⟩ := a
      simp [Addr.add] at e0
      obtain ⟨rfl, rfl, rfl⟩ := e0
      refine ⟨ab, ao, rfl, hlt, fun i cs hi => ?_⟩
      rw [List.getElem?_map] at hi
      obtain ⟨y, hy, rfl⟩ := Option.map_eq_some_iff.1 hi
      obtain ⟨b', off', e1, _, hat⟩ := at_of_cells (hl' i y hy).1 hs
      rw [add_plain] at e1
      simp at e1
      obtain ⟨rfl, rfl⟩ := e1
      exact hat
    · obtain ⟨i, hi⟩ := List.mem_iff_getElem?.1 hx
      exact (hl' i x hi).2

/-- The fields of a struct from one on. -/
def OpensF (P : Program) {α : Type} (fs : List Field) (off tot : Nat) (c : α → List Value) (Q : World → α → Prop) : Prop :=
  ∀ (H : Type) (enc : TypeId × Value → H) (w : World) (n : Nat) (cs : List Value) (xs : List (DataW H × List MemPlace)), cs.length = tot → xs.length = fs.length →
    (∀ (i : Nat) (f : Field), fs[i]? = some f → DataW.trod enc P w 0 (fun _ => true) true n f.type ((cs.drop f.offset).take (P.cellsOf f.type)) = xs[i]?) →
    (∀ k ∈ DataW.weightsEach P (fs.map (·.type)) (xs.map (·.1)), k ≤ reachBytes) → ∃ a, cs.drop off = c a ∧ Q w a
/-- An argument, opened. -/
theorem Opens.arg {H : Type} {enc : TypeId × Value → H} {t : TypeId} {c : α → List Value} {Q : World → α → Prop} (h : Opens P t c Q) {W : World} {v : Value} {d : DataW H} {p : List MemPlace} (hv : DataW.Trod enc P W 0 (fun _ => true) true t v d p) (hl : Lim P t d) : ∃ a, v.cells.toList = c a ∧ Q W a := by
  obtain ⟨fuel, hx⟩ := hv
  exact h H enc W fuel _ _ hx hl
end Go.Proofs.YtnphokhehacfnaaGreatDoor

namespace Go.Proofs.YtnphokhehacfnaaGreatDoor
open Go.ChangeShapes Go.WideShapes Go.ChangeAt Go.RowKit

section
variable {H : Type} {enc : TypeId × Value → H} {P : Program} {W : World} {α : Type} {c : α → List Value} {Q : World → α → Prop} {r : Reach} {base : Nat} {t : TypeId} {v : Value} {d : DataW H} {p : List MemPlace}
theorem Opens.agg {fs : Array Field} (h : Opens P t c Q) (ht : P.underlying t = some (.struct fs)) (hv : Value.okWide P W r base t v) (hd : DataW.Trod enc P W 0 (fun _ => true) true t v d p) (hl : Lim P t d) : ∃ a, v = .agg (c a).toArray ∧ Q W a := by
  obtain ⟨cs, rfl, _⟩ := okWide_struct ht hv
  obtain ⟨a, ha, q⟩ := h.arg hd hl
  exact ⟨a, by rw [← ha]; simp [Value.cells], q⟩
theorem Opens.slice {e : TypeId} {β : Type} {f : β → Value} {Q : World → β → Prop} (h : Opens P t (fun b => [f b]) Q) (ht : P.underlying t = some (.slice e)) (hv : Value.okWide P W r base t v) (hd : DataW.Trod enc P W 0 (fun _ => true) true t v d p) (hl : Lim P t d) : ∃ b, v = f b ∧ Q W b := by
  obtain ⟨A, len, cap, rfl⟩ := okWide_slice ht hv
  obtain ⟨b, hb, q⟩ := h.arg hd hl
  exact ⟨b, by simpa [Value.cells] using hb, q⟩
theorem Opens.int {β : Type} {f : β → Value} {Q : World → β → Prop} {k : IntKind} (h : Opens P t (fun b => [f b]) Q) (ht : P.underlying t = some (.int k)) (hv : Value.okWide P W r base t v) (hd : DataW.Trod enc P W 0 (fun _ => true) true t v d p) (hl : Lim P t d) : ∃ b, v = f b ∧ Q W b := by
  obtain ⟨n, rfl⟩ := okWide_int ht hv
  obtain ⟨b, hb, q⟩ := h.arg hd hl
  exact ⟨b, by simpa [Value.cells] using hb, q⟩
theorem Opens.string {β : Type} {f : β → Value} {Q : World → β → Prop} (h : Opens P t (fun b => [f b]) Q) (ht : P.underlying t = some .string) (hv : Value.okWide P W r base t v) (hd : DataW.Trod enc P W 0 (fun _ => true) true t v d p) (hl : Lim P t d) : ∃ b, v = f b ∧ Q W b := by
  obtain ⟨s, rfl⟩ := okWide_string ht hv
  obtain ⟨b, hb, q⟩ := h.arg hd hl
  exact ⟨b, by simpa [Value.cells] using hb, q⟩
theorem Opens.bool {β : Type} {f : β → Value} {Q : World → β → Prop} (h : Opens P t (fun b => [f b]) Q) (ht : P.underlying t = some .bool) (hv : Value.okWide P W r base t v) (hd : DataW.Trod enc P W 0 (fun _ => true) true t v d p) (hl : Lim P t d) : ∃ b, v = f b ∧ Q W b := by
  obtain ⟨s, rfl⟩ := okWide_bool ht hv
  obtain ⟨b, hb, q⟩ := h.arg hd hl
  exact ⟨b, by simpa [Value.cells] using hb, q⟩
end

section
variable {H : Type} {enc : TypeId × Value → H} {P : Program} {W W' : World}
theorem trodAll_stays {sp : Nat → Bool} (hlo : laidOutB P = true) (hb : Below W.heap.size W W') : ∀ {ts : List TypeId} {vs : List Value} {ds : List (DataW H)} {ps : List MemPlace}, DataW.TrodAll enc P W 0 (fun _ => true) true ts vs ds ps →
    (∀ t ∈ ts, P.readableRec t = true ∧ t < P.types.size) → (∀ x ∈ ps, x.block < W.heap.size ∧ sp x.block = true) → DataW.TrodAll enc P W' 0 sp true ts vs ds ps
  | [], vs, ds, ps, h, _, _ => by
    cases vs <;> cases ds <;> simp_all [DataW.TrodAll]
  | t :: ts, vs, ds, ps, h, ht, hp => by
    obtain ⟨v, vs', d, ds', p, q, rfl, rfl, rfl, h0, h1⟩ := trodAll_cons h
    have k := ht t (by simp)
    exact trodAll_cons_mk (WideElems.Trod_stays hlo k.1 k.2 h0 (fun x hx => hb.same (hp x (by simp [hx])).1) (fun x hx => (hp x (by simp [hx])).2)) (trodAll_stays hlo hb h1 (fun t ht' => ht t (by simp [ht'])) (fun x hx => hp x (by simp [hx])))

/-- What the row asks behind a law's call: true, and each argument reads as it read. -/
theorem law_post {fn : Func} {s : ChangeSpec} {tb : TypeId} {args : Array Value} {ds gs : List (DataW H)} {before : List MemPlace} (hlo : laidOutB P = true) (hrd : fn.params.toList.all (fun t => P.readableRec t && decide (t < P.types.size)) = true) (hr : fn.resultTypes = #[tb]) (htb : P.underlying tb = some .bool) (hvars : s.vars = [])
    (hspec : s.fn H ds = { results := [.lit (.bool true)], args := ds }) (hW : DataW.Whole enc P fn.params.toList s.vars false W args.toList ds gs before) (hb : Below W.heap.size W W') : s.post enc P fn false true false false W args (.bool true) W' := by
  obtain ⟨p, q, hA, hV, rfl, hfz, hnd⟩ := id hW
  rw [hvars] at hV
  obtain ⟨rfl, rfl⟩ := trodVars_none hV
  have hlt : ∀ x ∈ p ++ ([] : List MemPlace), x.block < W.heap.size := fun x hx => hW.lt x hx
  refine post_of_below (pa := p) (pv := []) hW (fun b sp hd => ?_) (fun sp hsp => ?_) (fun sp hsp => ?_) rfl hb ?_
  · rw [List.append_nil, hspec, hr]
    exact trodAll_cons_mk (shut_bool htb _) trodAll_mk0
  · rw [List.append_nil, hspec]
    exact trodAll_stays hlo hb hA (fun t ht => by simpa using List.all_eq_true.1 hrd t ht) (fun x hx => ⟨hlt x (by simp [hx]), hsp x (by simp [hx])⟩)
  · rw [List.append_nil, hspec, hvars]
    exact rfl
  · exact ok_one hr rfl (okWide_bool_mk htb _)
theorem lim_each {ts : List TypeId} {ds : List (DataW H)} (h : (DataW.weightsEach P ts ds).all (· ≤ reachBytes) = true) : ∀ n ∈ DataW.weightsEach P ts ds, n ≤ reachBytes := fun n hn => by simpa using List.all_eq_true.1 h n hn
theorem lim_cons {t : TypeId} {ts : List TypeId} {d : DataW H} {ds : List (DataW H)} (h : ∀ n ∈ DataW.weightsEach P (t :: ts) (d :: ds), n ≤ reachBytes) : Lim P t d ∧ ∀ n ∈ DataW.weightsEach P ts ds, n ≤ reachBytes :=
  ⟨fun n hn => h n (by simp only [DataW.weightsEach, List.mem_append]; exact .inl hn), fun n hn => h n (by simp only [DataW.weightsEach, List.mem_append]; exact .inr hn)⟩
end

/-! ### What the bound of the second form gives -/
end Go.Proofs.YtnphokhehacfnaaGreatDoor

namespace Go.Proofs.YtnphokhehacfnaaGreatDoor
open Go.RowKit

theorem vecKind_yes (k : Int) (h : 1 ≤ k ∧ k ≤ 3) (w : World) : Calls Tryz.prog 104 #[.int .i64 k] w fun e w' => e = .returned (.bool true) ∧ w = w' := by
  obtain ⟨h1, h2⟩ := h
  go_enter Tryz.func104, Tryz.ntmps104
  go_wp2
  go_ret
  exact ⟨rfl, rfl⟩
theorem vecKind_no (k : Int) (h : ¬ (1 ≤ k ∧ k ≤ 3)) (w : World) : Calls Tryz.prog 104 #[.int .i64 k] w fun e w' => e = .returned (.bool false) ∧ w = w' := by
  by_cases h1 : 1 ≤ k
  · have h2 : 3 < k := by omega
    clear h
    go_enter Tryz.func104, Tryz.ntmps104
    go_wp2
    go_ret
    exact ⟨ret_bool (by simp; omega), rfl⟩
  · clear h
    go_enter Tryz.func104, Tryz.ntmps104
    go_wp2
    go_ret
    exact ⟨rfl, rfl⟩
theorem vecKind_any (k : Int) (w : World) : Calls Tryz.prog 104 #[.int .i64 k] w fun e w' => e = .returned (.bool (kindB k)) ∧ w = w' := by
  by_cases h : 1 ≤ k ∧ k ≤ 3
  · rw [show kindB k = true by simp [kindB, h]]; exact vecKind_yes k h w
  · rw [show kindB k = false by simpa [kindB] using h]; exact vecKind_no k h w

theorem find1_any (b : Nat) (c : Col) (s : ByteArray) (w : World) (h : w.cell? ⟨b, 0, none⟩ = some (.string s)) (hb : b < w.heap.size) :
    Calls Tryz.prog 160 #[c.val, .pointer (some ⟨b, 0, none⟩)] w fun e w' => e = .returned (.bool (c.name.toList == s.toList)) ∧ Below w.heap.size w w' := by
  unfold Col.val
  go_enter Tryz.func160, Tryz.ntmps160
  go_wp2
  go_ret
  exact ⟨rfl, (Below.refl _ _).alloc (Nat.le_refl _) _⟩

theorem indexFuncCol_any (f : FuncId) (caps : Array Value) (p : Col → Bool) (A : Option Addr) (cap : Nat) (cols : List Col) (w : World)
    (hB : cols.length ≤ 4611686018427387904) (hat : SlAt w w.heap.size 3 A (cols.map Col.cells))
    (hcall : ∀ args w, (callFunc f args).run Tryz.prog w = .ok (.enter f args) w)
    (hf : ∀ c ∈ cols, ∀ w', Below w.heap.size w w' → Calls Tryz.prog f (#[c.val] ++ caps) w' fun e w'' => e = .returned (.bool (p c)) ∧ Below w.heap.size w' w'') :
    Calls Tryz.prog 150 #[.slice A cols.length cap, .func (.func f) #[] caps] w fun e w' =>
      e = .returned (.int .i64 (idx p cols)) ∧ Below w.heap.size w w' := by
  have HF := Lib.hid hf; clear hf
  go_enter Tryz.func150, Tryz.ntmps150
  go_wp2
  go_loopw [8] (fun i wr => ∃ k : Nat, k ≤ cols.length ∧ i = .int .i64 k ∧ k ≤ cols.findIdx p ∧ Below w.heap.size w wr) (fun i _ => cols.length - (intOf i).toNat)
  case atStart => exact ⟨0, Nat.zero_le _, rfl, Nat.zero_le _, Below.refl _ _⟩
  case round =>
    obtain ⟨k, hk, rfl, hfi, hbw⟩ := hrel
    by_cases hlt : k < cols.length
    · obtain ⟨b, off, rfl, hb, hc⟩ := hat.keep hbw (by simpa using Nat.lt_of_le_of_lt (Nat.zero_le _) hlt)
      have hck := hc k cols[k].cells (by simp [hlt])
      obtain ⟨h1, h2, h3⟩ := At.l3 hck
      have HC := HF.out cols[k] (List.getElem_mem hlt) wr hbw
      unfold Col.val at HC
      have HC' := Lib.hid HC; clear HC hc
      cases hp : p cols[k] with
      | true =>
        have Hp := Lib.hid hp; clear hp
        go_wp2_with (refine HC'.out.mono ?_; rintro e w' ⟨rfl, hb'⟩; rw [Hp.out])
        go_ret
        have e : cols.findIdx p = k := fi_hit p cols k hlt hfi Hp.out
        exact ⟨ret_int (by simp [idx, e, hlt]), hbw.trans hb'⟩
      | false =>
        have Hp := Lib.hid hp; clear hp
        go_wp2_with (refine HC'.out.mono ?_; rintro e w' ⟨rfl, hb'⟩; rw [Hp.out])
        go_roundw
        case rel => 
          exact ⟨k + 1, by omega, by go_num, fi_miss p cols k hlt hfi Hp.out, hbw.trans hb'⟩
        case measure => simp [intOf]; omega
    · go_wp2_with fail
      go_ret
      exact ⟨ret_int (by rw [idx, if_neg (by omega)]), hbw⟩

theorem find_any (id next : Int) (A : Option Addr) (cap : Nat) (cols : List Col) (nm : ByteArray) (w : World)
    (hB : cols.length ≤ 4611686018427387904) (hat : SlAt w w.heap.size 3 A (cols.map Col.cells)) :
    Calls Tryz.prog 125 #[.agg #[.int .i64 id, .slice A cols.length cap, .int .i64 next], .string nm] w fun e w' =>
      e = .returned (.int .i64 (idx (named nm) cols)) ∧ Below w.heap.size w w' := by
  go_enter Tryz.func125, Tryz.ntmps125
  go_wp2_with fail
  refine (indexFuncCol_any _ _ (named nm) A cap cols _ hB ?_ ?_ ?_).mono ?_
  · exact (hat.al _).al _
  · intro args w1
    kernel_rfl
  · intro c hc w' hb'
    obtain ⟨hc1, _⟩ := bcell hb'
    refine (find1_any _ c nm w' ?_ ?_).mono fun e w2 ⟨he, hb2⟩ => ⟨he, hb2.mono hb'.size⟩
    · rw [hc1 _ _ (by simp)]; simp [go_sem]
    · have := hb'.size; simp at this; omega
  · rintro e w' ⟨rfl, hb'⟩
    go_wp2_with fail
    go_ret
    exact ⟨rfl, below_from1 (below_from1 hb')⟩

end Go.Proofs.YtnphokhehacfnaaGreatDoor

namespace Go.Proofs
open Go.Shelf
def Tryz.lays160_ren : Go.Shelf.Ren := ⟨fun | 160 => 149 | 232 => 172 | 231 => 171 | 227 => 173 | 234 => 175 | 233 => 174 | 236 => 177 | 235 => 176 | 228 => 190 | 271 => 193 | 151 => 192 | 197 => 191 | 120 => 200 | 152 => 199 | 260 => 198 | 137 => 205 | 119 => 206 | 224 => 207 | 225 => 208 | 217 => 211 | 266 => 212 | n => n, fun | 9 => 9 | 4 => 4 | 3 => 3 | 5 => 5 | 117 => 197 | 116 => 196 | 0 => 0 | 124 => 200 | 21 => 21 | 105 => 212 | 46 => 71 | 119 => 226 | 139 => 229 | 138 => 228 | n => n, fun | 3 => 0 | 4 => 1 | n => n⟩
theorem Tryz.lays160 : Go.Proofs.Lays.n160 Tryz.prog Tryz.lays160_ren := {
  mixed := by kernel_rfl
  f119 := Tryz.func206.trans (congrArg some (by kernel_rfl))
  f120 := Tryz.func200.trans (congrArg some (by kernel_rfl))
  f137 := Tryz.func205.trans (congrArg some (by kernel_rfl))
  f151 := Tryz.func192.trans (congrArg some (by kernel_rfl))
  f152 := Tryz.func199.trans (congrArg some (by kernel_rfl))
  f160 := Tryz.func149.trans (congrArg some (by kernel_rfl))
  f197 := Tryz.func191.trans (congrArg some (by kernel_rfl))
  f217 := Tryz.func211.trans (congrArg some (by kernel_rfl))
  f224 := Tryz.func207.trans (congrArg some (by kernel_rfl))
  f225 := Tryz.func208.trans (congrArg some (by kernel_rfl))
  f227 := Tryz.func173.trans (congrArg some (by kernel_rfl))
  f228 := Tryz.func190.trans (congrArg some (by kernel_rfl))
  f231 := Tryz.func171.trans (congrArg some (by kernel_rfl))
  f232 := Tryz.func172.trans (congrArg some (by kernel_rfl))
  f233 := Tryz.func174.trans (congrArg some (by kernel_rfl))
  f234 := Tryz.func175.trans (congrArg some (by kernel_rfl))
  f235 := Tryz.func176.trans (congrArg some (by kernel_rfl))
  f236 := Tryz.func177.trans (congrArg some (by kernel_rfl))
  f260 := Tryz.func198.trans (congrArg some (by kernel_rfl))
  f266 := Tryz.func212.trans (congrArg some (by kernel_rfl))
  f271 := Tryz.func193.trans (congrArg some (by kernel_rfl))
  t0 := Tryz.underlying0
  a0 := Tryz.isAgg0
  z0 := Tryz.sizeOf0
  v0 := Tryz.zeroValue0
  t3 := Tryz.underlying3
  a3 := Tryz.isAgg3
  z3 := Tryz.sizeOf3
  v3 := Tryz.zeroValue3
  t4 := Tryz.underlying4
  a4 := Tryz.isAgg4
  z4 := Tryz.sizeOf4
  v4 := Tryz.zeroValue4
  t5 := Tryz.underlying5
  a5 := Tryz.isAgg5
  z5 := Tryz.sizeOf5
  v5 := Tryz.zeroValue5
  t9 := Tryz.underlying9
  a9 := Tryz.isAgg9
  z9 := Tryz.sizeOf9
  v9 := Tryz.zeroValue9
  t21 := Tryz.underlying21
  a21 := Tryz.isAgg21
  z21 := Tryz.sizeOf21
  v21 := Tryz.zeroValue21
  t46 := Tryz.underlying71
  a46 := Tryz.isAgg71
  z46 := Tryz.sizeOf71
  v46 := Tryz.zeroValue71
  t105 := Tryz.underlying212
  a105 := Tryz.isAgg212
  z105 := Tryz.sizeOf212
  v105 := Tryz.zeroValue212
  t116 := Tryz.underlying196
  a116 := Tryz.isAgg196
  z116 := Tryz.sizeOf196
  t117 := Tryz.underlying197
  a117 := Tryz.isAgg197
  z117 := Tryz.sizeOf197
  v117 := Tryz.zeroValue197
  t119 := Tryz.underlying226
  a119 := Tryz.isAgg226
  z119 := Tryz.sizeOf226
  t124 := Tryz.underlying200
  a124 := Tryz.isAgg200
  z124 := Tryz.sizeOf200
  v124 := Tryz.zeroValue200
  t138 := Tryz.underlying228
  a138 := Tryz.isAgg228
  z138 := Tryz.sizeOf228
  v138 := Tryz.zeroValue228
  t139 := Tryz.underlying229
  a139 := Tryz.isAgg229
  z139 := Tryz.sizeOf229
  v139 := Tryz.zeroValue229
  g3 := by kernel_rfl
  g4 := by kernel_rfl }
end Go.Proofs

namespace Go.Proofs.YtnphokhehacfnaaGreatDoor
open Go.RowKit Go.Shelf Go.Lib

theorem dropWhile_nil {α : Type} (p : α → Bool) : ∀ l : List α, (l.dropWhile p = [] ↔ l.all p = true)
  | [] => by simp
  | x :: r => by
    cases h : p x with
    | true => simpa [h] using dropWhile_nil p r
    | false => simp [h]
theorem dw_all {α : Type} (p : α → Bool) : ∀ l : List α, (l.dropWhile p).all p = true → l.dropWhile p = []
  | [], _ => rfl
  | x :: r, h => by
    cases hx : p x with
    | true => simp only [List.dropWhile_cons, hx, if_true] at h ⊢; exact dw_all p r h
    | false => simp [hx] at h
theorem trimS_nil (l cs : List UInt8) : (Lib.trimS l cs).isEmpty = l.all (cs.contains ·) := by
  rw [Bool.eq_iff_iff, List.isEmpty_iff]
  unfold Lib.trimS Lib.trimLeftS Lib.trimRightS
  rw [dropWhile_nil]
  constructor
  · intro h
    have h2 : (l.reverse.dropWhile (cs.contains ·)) = [] := dw_all _ _ (by rw [List.all_reverse] at h; exact h)
    have h3 := (dropWhile_nil _ _).1 h2
    rw [List.all_reverse] at h3
    exact h3
  · intro h
    have h2 : (l.reverse.dropWhile (cs.contains ·)) = [] := (dropWhile_nil _ _).2 (by rw [List.all_reverse]; exact h)
    rw [h2]
    rfl

theorem trim_any (s : ByteArray) (w : World) (hs : s.size ≤ 9223372036854775807) :
    Calls Tryz.prog 149 #[.string s, .string ⟨#[97, 98, 99, 100, 101, 102, 103, 104, 105, 106, 107, 108, 109, 110, 111, 112, 113, 114, 115, 116, 117, 118, 119, 120, 121, 122, 48, 49, 50, 51, 52, 53, 54, 55, 56, 57, 95]⟩] w fun e w' =>
      ∃ r : ByteArray, r.toList.isEmpty = s.data.toList.all (nameSet.contains ·) ∧ e = .returned (.string r) ∧ Below w.heap.size w w' := by
  have hcon := Any.strings_Trim_laid Tryz.lays160 (by kernel_rfl) s ⟨#[97, 98, 99, 100, 101, 102, 103, 104, 105, 106, 107, 108, 109, 110, 111, 112, 113, 114, 115, 116, 117, 118, 119, 120, 121, 122, 48, 49, 50, 51, 52, 53, 54, 55, 56, 57, 95]⟩ w hs (by decide) (ascii_of_all (by decide))
  refine Calls.mono hcon fun e w' ⟨he, hb⟩ => ⟨_, ?_, he, hb⟩
  rw [ByteArray.toList_mk, trimS_nil]
  rfl

theorem name_any (s : ByteArray) (w : World) (hs : s.size ≤ 9223372036854775807) :
    Calls Tryz.prog 103 #[.string s] w fun e w' => e = .returned (.bool (nameB s)) ∧ Below w.heap.size w w' := by
  by_cases h1 : 1 ≤ s.size
  · by_cases h2 : s.size ≤ 16
    · go_enter Tryz.func103, Tryz.ntmps103
      go_wp2_with (go_at_call 149; refine (trim_any s _ hs).mono ?_; rintro e w' ⟨r, hr, rfl, hB⟩; have HR := Lib.hid hr; clear hr)
      go_ret
      exact ⟨ret_bool (by simp only [nameB, ← HR.out]; simp [h1, h2]), hB⟩
    · have h3 : 16 < s.size := by omega
      clear h2
      go_enter Tryz.func103, Tryz.ntmps103
      go_wp2
      go_ret
      exact ⟨ret_bool (by simp [nameB]; omega), Below.refl _ _⟩
  · have h3 : s.size = 0 := by omega
    clear h1
    go_enter Tryz.func103, Tryz.ntmps103
    go_wp2
    go_ret
    exact ⟨ret_bool (by simp [nameB, h3]), Below.refl _ _⟩
end Go.Proofs.YtnphokhehacfnaaGreatDoor

namespace Go.Proofs.YtnphokhehacfnaaGreatDoor
open Go.RowKit

def Sch.val (s : Sch) (A : Option Addr) (cap : Nat) : Value := .agg #[.int .i64 s.id, .slice A s.cols.length cap, .int .i64 s.next]

set_option maxHeartbeats 400000 in
theorem may_head (s : Sch) (A : Option Addr) (cap : Nat) (w : World) (hB : s.cols.length ≤ 4611686018427387904) (hH : ¬ headOk s) :
    Calls Tryz.prog 54 #[s.val A cap] w fun e w' => e = .returned (.bool false) ∧ Below w.heap.size w w' := by
  obtain ⟨id, cols, next⟩ := s
  simp only [Sch.val] at hB ⊢
  have HH := hide hH; clear hH
  go_enter Tryz.func54, Tryz.ntmps54
  go_wp2
  all_goals first
    | (go_ret; exact ⟨rfl, (Below.refl _ _).alloc (Nat.le_refl _) _⟩)
    | (exfalso; refine HH.out ?_; simp only [headOk]; omega)

set_option maxHeartbeats 2000000 in
theorem may_body (s : Sch) (A : Option Addr) (cap : Nat) (w : World) (hcap : s.cols.length ≤ cap) (_hcm : cap ≤ 9223372036854775807) (hat : SlAt w w.heap.size 3 A (s.cols.map Col.cells))
    (hnm : ∀ c ∈ s.cols, c.name.size ≤ 9223372036854775807) (hH : headOk s) :
    Calls Tryz.prog 54 #[s.val A cap] w fun e w' => e = .returned (.bool (okUpto s.next s.cols s.cols.length)) ∧ Below w.heap.size w w' := by
  obtain ⟨id, cols, next⟩ := s
  simp only [Sch.val, headOk] at hcap hat hnm hH ⊢
  obtain ⟨g1, g2, g3, g4, g5, g6⟩ := hH
  have HN := Lib.hid hnm; clear hnm
  have Q0 := At.new w [.int .i64 id, .slice A cols.length cap, .int .i64 next] 24
  have HQ := hide Q0; clear Q0
  go_enter Tryz.func54, Tryz.ntmps54
  go_wp2
  go_loopw [40] (fun i wr => ∃ k : Nat, k ≤ cols.length ∧ i = .int .i64 k ∧ okUpto next cols k = true ∧ Below (w.heap.size + 1) (w.alloc (.cells #[.int .i64 id, .slice A cols.length cap, .int .i64 next] 24)) wr) (fun i _ => cols.length - (intOf i).toNat)
  case atStart => exact ⟨0, Nat.zero_le _, rfl, rfl, Below.refl _ _⟩
  case round =>
    obtain ⟨wo, rfl⟩ : ∃ wo : World, wo = wr := ⟨_, rfl⟩
    obtain ⟨k, hk, rfl, hok, hbw⟩ := hrel
    have HO := hide hok; clear hok
    have hbw0 : Below w.heap.size w wo := (below_a1 w _).trans (hbw.mono (by omega))
    have hs1 : w.heap.size < wo.heap.size := by have := hbw.size; simp at this; omega
    by_cases hlt : k < cols.length
    · obtain ⟨b, off, rfl, hb, hc⟩ := hat.keep hbw0 (by simpa using Nat.lt_of_le_of_lt (Nat.zero_le _) hlt)
      have Hc := hide hc; clear hc
      obtain ⟨c, hcc⟩ : ∃ c, cols[k]? = some c := ⟨_, List.getElem?_eq_getElem hlt⟩
      have HC := hide hcc
      have hck := Hc.out k c.cells (by simp [hcc])
      obtain ⟨h1, h2, h3⟩ := At.l3 hck
      have hnk := HN.out c (List.mem_of_getElem? hcc)
      clear hcc hck
      obtain ⟨q0, q1, q2⟩ := At.z3 (HQ.out.below hbw (by omega))
      have t1 : b < wo.heap.size := by omega
      have HB := hide hbw; clear hbw
      cases hco : colOk next c with
      | false =>
        have Hco := hide hco; clear hco
        go_wp2_with (first
          | (go_at_call 103; refine (name_any _ _ hnk).mono ?_; rintro e w1 ⟨rfl, hb1⟩; obtain ⟨c1, f1⟩ := bcell hb1; have z1 := hb1.size; simp only [hsz] at z1; have z2 : wo.heap.size < w1.heap.size := (by omega); have z3 : w.heap.size < w1.heap.size := (by omega); have z4 : b < w1.heap.size := (by omega); clear z1; have H1 := hide hb1; clear hb1)
          | (go_at_call 104; refine (vecKind_any _ _).mono ?_; rintro e w1 ⟨rfl, rfl⟩))
        all_goals first
          | (go_ret; exact ⟨ret_bool (okUpto_bad hlt (okAt_of HC.out Hco.out)).symm, by first | exact hbw0.alloc (by omega) _ | exact (hbw0.alloc (by omega) _).trans (H1.out.mono (by simp; omega))⟩)
          | (exfalso
             have a1 : 1 ≤ c.id := by assumption
             have a2 : c.id < next := by assumption
             have a3 : nameB c.name = true := by assumption
             have a4 : (1 ≤ c.id ∧ c.id < next) ∧ (!kindB c.kind) = false := by assumption
             have a5 := Hco.out
             rw [colOk_yes a1 a2 a3 (by simpa using a4.2)] at a5
             cases a5)
      | true =>
        have Hco := hide hco
        obtain ⟨e1, e2, e3, e4⟩ := colOk_inv hco
        clear hco
        have E3 := hide e3; clear e3
        have E4 := hide e4; clear e4
        go_wp2_with (first
          | (go_at_call 103; refine (name_any _ _ hnk).mono ?_; rintro e w1 ⟨rfl, hb1⟩; rw [E3.out]; obtain ⟨c1, f1⟩ := bcell hb1; have z1 := hb1.size; simp only [hsz] at z1; have z2 : wo.heap.size < w1.heap.size := (by omega); have z3 : w.heap.size < w1.heap.size := (by omega); have z4 : b < w1.heap.size := (by omega); clear z1; have H1 := hide hb1; clear hb1)
          | (go_at_call 104; refine (vecKind_any _ _).mono ?_; rintro e w1 ⟨rfl, rfl⟩; rw [E4.out]))
        have hb01 : Below w.heap.size w w1 := (hbw0.alloc (by omega) _).trans (H1.out.mono (by rw [hsz]; omega))
        have HA := hide ((At.new wo c.cells 90).below H1.out (by rw [hsz]; omega))
        clear h1 h2 h3 q0 q1 q2 c1 f1
        go_loopw [72] (fun i wi => ∃ j : Nat, j ≤ k ∧ i = .int .i64 j ∧ (cols.take j).any (clash c) = false ∧ Below w1.heap.size w1 wi) (fun i _ => k - (intOf i).toNat)
        case atStart => exact ⟨0, Nat.zero_le _, rfl, rfl, Below.refl _ _⟩
        case round =>
          obtain ⟨j, hj, rfl, hcl, hbi⟩ := hrel
          have HCL := hide hcl; clear hcl
          have hsi : w1.heap.size ≤ wr.heap.size := hbi.size
          have HBI := hide hbi; clear hbi
          by_cases hjk : j < k
          · obtain ⟨d, hdd⟩ : ∃ d, cols[j]? = some d := ⟨_, List.getElem?_eq_getElem (by omega)⟩
            have HD := hide hdd
            obtain ⟨b', off', hA', _, hcd⟩ := hat.keep (hb01.trans (HBI.out.mono (by omega))) (by simpa using Nat.lt_of_le_of_lt (Nat.zero_le _) hlt)
            obtain ⟨rfl, rfl⟩ : b = b' ∧ off = off' := by simpa using hA'
            obtain ⟨h1, h2, h3⟩ := At.l3 (hcd j d.cells (by simp [hdd]))
            obtain ⟨p0, p1, _⟩ := At.z3 (HA.out.below HBI.out (by omega))
            clear hdd hcd hA'
            have y1 : b < wr.heap.size := by omega
            have y2 : wo.heap.size < wr.heap.size := by omega
            have hget : cols[j]'(by omega) = d := by
              have := HD.out
              rw [List.getElem?_eq_getElem (by omega)] at this
              exact Option.some.inj this
            have HG := hide hget; clear hget
            go_wp2
            · go_ret
              exact ⟨ret_bool (okUpto_bad hlt (okAt_clash HC.out (any_take_yes _ _ j k hjk (by omega) (by rw [HG.out]; exact clash_id (by assumption))))).symm,
                (hb01.trans (HBI.out.mono (by omega))).alloc (by omega) _⟩
            · go_ret
              exact ⟨ret_bool (okUpto_bad hlt (okAt_clash HC.out (any_take_yes _ _ j k hjk (by omega) (by rw [HG.out]; exact clash_or (by assumption))))).symm,
                (hb01.trans (HBI.out.mono (by omega))).alloc (by omega) _⟩
            · go_roundw
              case rel =>
                exact ⟨j + 1, by omega, by go_num, by rw [any_take_succ _ _ _ (by omega), HCL.out, HG.out, clash_no (by assumption)]; rfl, HBI.out.alloc (by omega) _⟩
              case measure => simp [intOf]; omega
          · obtain rfl : j = k := by omega
            go_wp2
            go_roundw
            case rel =>
              refine ⟨j + 1, by omega, by go_num, ?_, ?_⟩
              · simp only [okUpto, HO.out, Bool.true_and]
                exact okAt_yes HC.out Hco.out HCL.out
              · exact ((HB.out.alloc (by omega) _).trans (H1.out.mono (by rw [hsz]; omega))).trans (HBI.out.mono (by omega))
            case measure => simp [intOf]; omega
    · go_wp2_with fail
      go_ret
      obtain rfl : k = cols.length := by omega
      exact ⟨ret_bool HO.out.symm, hbw0⟩
theorem may_any (s : Sch) (A : Option Addr) (cap : Nat) (w : World) (hcap : s.cols.length ≤ cap) (hcm : cap ≤ 9223372036854775807) (hB : s.cols.length ≤ 4398046511103) (hat : SlAt w w.heap.size 3 A (s.cols.map Col.cells))
    (hnm : ∀ c ∈ s.cols, c.name.size ≤ 9223372036854775807) :
    Calls Tryz.prog 54 #[s.val A cap] w fun e w' => e = .returned (.bool (mayB s)) ∧ Below w.heap.size w w' := by
  by_cases h : headOk s
  · refine (may_body s A cap w hcap hcm hat hnm h).mono fun e w' ⟨he, hb⟩ => ⟨?_, hb⟩
    rw [he]
    exact ret_bool (by simp [mayB, h])
  · refine (may_head s A cap w (by omega) h).mono fun e w' ⟨he, hb⟩ => ⟨?_, hb⟩
    rw [he]
    exact ret_bool (by simp [mayB, h])
end Go.Proofs.YtnphokhehacfnaaGreatDoor

namespace Go.Proofs.YtnphokhehacfnaaGreatDoor
open Go.RowKit

/-- The call answers the schema and the error r; the schema's columns lie in new memory. -/
def SchRes (w : World) (r : Sch × Int) (e : Ending) (w' : World) : Prop :=
  ∃ (A : Option Addr) (cap : Nat), e = .returned (.tuple #[r.1.val A cap, .int .i64 r.2]) ∧ r.1.cols.length ≤ cap ∧ cap ≤ maxLen ∧
    Own w' w.heap.size 90 3 (.slice A r.1.cols.length cap) (r.1.cols.map Col.cells) ∧ Below w.heap.size w w'

/-- Stored into the result's own block. -/
theorem SchRes.store {w w0 w' : World} {r : Nat} {s : Sch} {n : Int} {A : Option Addr} {cap : Nat} {a b c : Value} (h1 : s.cols.length ≤ cap) (h2 : cap ≤ maxLen) (hown : Own w' w0.heap.size 90 3 (.slice A s.cols.length cap) (s.cols.map Col.cells))
    (hb : Below w.heap.size w w') (h0 : w.heap.size ≤ w0.heap.size) (hr : Blk w' r 24 [a, b, c]) (hlt : w.heap.size ≤ r) :
    SchRes w (s, n) (.returned (.tuple #[s.val A cap, .int .i64 n])) (((w'.setCell ⟨r, 0, none⟩ (.int .i64 s.id)).setCell ⟨r, 1, none⟩ (.slice A s.cols.length cap)).setCell ⟨r, 2, none⟩ (.int .i64 s.next)) :=
  ⟨A, cap, rfl, h1, h2, (hown.more h0).store3 hr (by decide) _ _ _, below3 hb hlt _ _ _⟩
theorem SchRes.err {w w' : World} {n : Int} (hb : Below w.heap.size w w') : SchRes w (Sch.zero, n) (.returned (.tuple #[.agg #[.int .i64 0, .slice none 0 0, .int .i64 0], .int .i64 n])) w' :=
  ⟨none, 0, rfl, Nat.le_refl _, by simp [maxLen], Own.nil_ _ _ _ _, hb⟩

/-- What every call of the schema's functions asks of a schema that is handed in. -/
structure SchIn (w : World) (s : Sch) (A : Option Addr) (cap : Nat) : Prop where
  hcap : s.cols.length ≤ cap
  hcapm : cap ≤ 9223372036854775807
  len : s.cols.length ≤ 4398046511102
  at_ : SlAt w w.heap.size 3 A (s.cols.map Col.cells)
  names : ∀ c ∈ s.cols, c.name.size ≤ 9223372036854775807
theorem SchIn.al {w : World} {s : Sch} {A : Option Addr} {cap : Nat} (h : SchIn w s A cap) (o : Obj) : SchIn (w.alloc o) s A cap := ⟨h.hcap, h.hcapm, h.len, h.at_.al o, h.names⟩
theorem SchIn.below {w w' : World} {s : Sch} {A : Option Addr} {cap : Nat} (h : SchIn w s A cap) (hb : Below w.heap.size w w') : SchIn w' s A cap := ⟨h.hcap, h.hcapm, h.len, (h.at_.keep hb).more hb.size, h.names⟩
theorem SchIn.may {w : World} {s : Sch} {A : Option Addr} {cap : Nat} (h : SchIn w s A cap) : Calls Tryz.prog 54 #[s.val A cap] w fun e w' => e = .returned (.bool (mayB s)) ∧ Below w.heap.size w w' :=
  may_any s A cap w h.hcap h.hcapm (by have := h.len; omega) h.at_ h.names
theorem SchIn.find {w : World} {s : Sch} {A : Option Addr} {cap : Nat} (h : SchIn w s A cap) (nm : ByteArray) : Calls Tryz.prog 125 #[s.val A cap, .string nm] w fun e w' => e = .returned (.int .i64 (idx (named nm) s.cols)) ∧ Below w.heap.size w w' :=
  find_any s.id s.next A cap s.cols nm w (by have := h.len; omega) h.at_

/-- A variable of a schema's type: its block, and what it leads to. -/
structure SV (w : World) (g : Nat) (s : Sch) (A : Option Addr) (cap : Nat) : Prop where
  blk : Blk w g 24 [.int .i64 s.id, .slice A s.cols.length cap, .int .i64 s.next]
  sin : SchIn w s A cap
theorem SV.al {w : World} {g : Nat} {s : Sch} {A : Option Addr} {cap : Nat} (h : SV w g s A cap) (o : Obj) : SV (w.alloc o) g s A cap := ⟨h.blk.alloc o, h.sin.al o⟩
theorem mayB_head {s : Sch} (h : mayB s = true) : headOk s := by
  simp only [mayB, Bool.and_eq_true, decide_eq_true_eq] at h
  exact h.1
end Go.Proofs.YtnphokhehacfnaaGreatDoor

namespace Go.Proofs.YtnphokhehacfnaaGreatDoor
open Go.ChangeShapes Go.WideShapes Go.ChangeAt Go.RowKit

theorem o_int : Opens Tryz.prog 3 (fun n : Int => [.int .i64 n]) (fun _ n => (Lit.int .i64 n).wf = true) := opens_int Tryz.underlying3
theorem o_ints : Opens Tryz.prog 68 (fun p : Option Addr × Nat × List Int => [.slice p.1 p.2.2.length p.2.1])
    (fun w p => p.2.2.length ≤ p.2.1 ∧ p.2.1 ≤ 17592186043904 ∧ SlAt w w.heap.size 1 p.1 (intCells p.2.2) ∧ ∀ n ∈ p.2.2, -9223372036854775808 ≤ n ∧ n ≤ 9223372036854775807) :=
  (opens_slice Tryz.underlying68 (size := 1) (bytes := 8) (by kernel_rfl) (by decide) (by kernel_rfl) o_int).map id (fun _ => rfl) (fun w p h => ⟨h.1, by have := h.2.2.1; simp only [reachBytes] at this; simp only [id]; omega, h.2.2.2.1, fun n hn => bounds_i64 (h.2.2.2.2 n hn)⟩)
end Go.Proofs.YtnphokhehacfnaaGreatDoor

namespace Go.Proofs.YtnphokhehacfnaaGreatDoor
open Go.RowKit

/-- A byte of UTF-8 that goes on: its six bits; -1: none. -/
def nextB (s : ByteArray) (i : Nat) : Int := if h : i < s.size then (if 128 ≤ s[i].toNat ∧ s[i].toNat ≤ 191 then (s[i].toNat : Int) - 128 else -1) else -1
/-- The rune of a first byte and what goes on. -/
def runeC (c a b d : Int) : Int × Int :=
  if c < 128 then (c, 1)
  else if c < 194 ∨ 244 < c then (0, 0)
  else if c < 224 ∧ 0 ≤ a then ((c - 192) * 64 + a, 2)
  else if 224 ≤ c ∧ c < 240 ∧ 0 ≤ a ∧ 0 ≤ b then (if 2048 ≤ (c - 224) * 4096 + a * 64 + b ∧ ((c - 224) * 4096 + a * 64 + b < 55296 ∨ 57343 < (c - 224) * 4096 + a * 64 + b) then ((c - 224) * 4096 + a * 64 + b, 3) else (0, 0))
  else if 240 ≤ c ∧ 0 ≤ a ∧ 0 ≤ b ∧ 0 ≤ d then (if 65536 ≤ (c - 240) * 262144 + a * 4096 + b * 64 + d ∧ (c - 240) * 262144 + a * 4096 + b * 64 + d ≤ 1114111 then ((c - 240) * 262144 + a * 4096 + b * 64 + d, 4) else (0, 0))
  else (0, 0)
/-- The rune at a place, and how many bytes it has. -/
def runeT (s : ByteArray) (i : Nat) : Int × Int := if h : i < s.size then runeC s[i].toNat (nextB s (i + 1)) (nextB s (i + 2)) (nextB s (i + 3)) else (0, 0)
def runeR (s : ByteArray) (at_ : Int) : Int × Int := if at_ < 0 then (0, 0) else runeT s at_.toNat

theorem nextB_lt {s : ByteArray} {i : Nat} (h : 0 ≤ nextB s i) : i < s.size := by
  unfold nextB at h
  split at h
  · assumption
  · omega
theorem nextB_bd (s : ByteArray) (i : Nat) : -1 ≤ nextB s i ∧ nextB s i < 64 := by
  unfold nextB
  split
  · split <;> omega
  · omega
theorem runeT_bd (s : ByteArray) (i : Nat) : 0 ≤ (runeT s i).2 ∧ (runeT s i).2 ≤ 4 ∧ (0 < (runeT s i).2 → i + (runeT s i).2.toNat ≤ s.size) := by
  unfold runeT
  split
  · rename_i hi
    have h1 : 0 ≤ nextB s (i + 1) → i + 1 < s.size := nextB_lt
    have h2 : 0 ≤ nextB s (i + 2) → i + 2 < s.size := nextB_lt
    have h3 : 0 ≤ nextB s (i + 3) → i + 3 < s.size := nextB_lt
    unfold runeC
    split
    · simp; omega
    split
    · simp
    split
    · simp; omega
    split
    · split <;> simp
      omega
    split
    · split <;> simp
      omega
    · simp
  · simp

/-- The first place that is no rune's beginning; -1: all are runes. -/
def firstN : Nat → ByteArray → Nat → Int
  | 0, _, _ => -1
  | f + 1, s, i => if i < s.size then (if (runeT s i).2 = 0 then (i : Int) else firstN f s (i + (runeT s i).2.toNat)) else -1
def firstR (s : ByteArray) : Int := firstN (s.size + 1) s 0
def validB (s : ByteArray) : Bool := decide (firstR s < 0)
/-- The place behind the first so many runes. -/
def preN : Nat → ByteArray → Nat → Nat
  | 0, _, i => i
  | m + 1, s, i => if i < s.size then preN m s (i + (max (runeT s i).2 1).toNat) else i
/-! ### The forms of 1 to 4 bytes, as the program asks for them -/
def maskT : Nat → Int | 1 => 128 | 2 => 224 | 3 => 240 | 4 => 248 | _ => 0
def headT : Nat → Int | 1 => 0 | 2 => 192 | 3 => 224 | 4 => 240 | _ => 0
def leastT : Nat → Int | 2 => 128 | 3 => 2048 | 4 => 65536 | _ => 0
/-- Which form a first byte has; 5: none. -/
def formT (c : Nat) : Nat := if c < 128 then 1 else if c < 192 then 5 else if c < 224 then 2 else if c < 240 then 3 else if c < 248 then 4 else 5
theorem form_tests : ∀ c : Fin 256, ∀ k : Fin 5, (bits .and .i64 (c.val : Int) (maskT k.val) == headT k.val) = (k.val == 0 || k.val == formT c.val) := by decide +kernel
theorem form_test (c : UInt8) {k : Nat} (hk : k < 5) : (bits .and .i64 (c.toNat : Int) (maskT k) == headT k) = (k == 0 || k == formT c.toNat) := form_tests ⟨c.toNat, c.toNat_lt⟩ ⟨k, hk⟩
theorem form_rests : ∀ c : Fin 256, ∀ k : Fin 5, formT c.val = k.val → bits .andNot .i64 (c.val : Int) (maskT k.val) = (c.val : Int) - headT k.val := by decide +kernel
theorem form_rest (c : UInt8) {k : Nat} (hk : k < 5) (h : formT c.toNat = k) : bits .andNot .i64 (c.toNat : Int) (maskT k) = (c.toNat : Int) - headT k := form_rests ⟨c.toNat, c.toNat_lt⟩ ⟨k, hk⟩ h
theorem on_tests : ∀ c : Fin 256, (bits .and .u8 (c.val : Int) 192 == 128) = (decide (128 ≤ c.val) && decide (c.val ≤ 191)) ∧ bits .and .u8 (c.val : Int) 63 = ((c.val % 64 : Nat) : Int) := by decide +kernel
theorem on_test (c : UInt8) : (bits .and .u8 (c.toNat : Int) 192 == 128) = (decide (128 ≤ c.toNat) && decide (c.toNat ≤ 191)) ∧ bits .and .u8 (c.toNat : Int) 63 = ((c.toNat % 64 : Nat) : Int) := on_tests ⟨c.toNat, c.toNat_lt⟩

def mayR (r : Int) : Bool := decide (0 ≤ r) && decide (r ≤ 1114111) && (decide (r < 55296) || decide (57343 < r))
/-- The number behind j bytes that go on. -/
def accT (s : ByteArray) (i : Nat) (c : Int) : Nat → Int
  | 0 => c
  | j + 1 => accT s i c j * 64 + nextB s (i + 1 + j)
theorem accT_bd {s : ByteArray} {i : Nat} {c : Int} (h0 : 0 ≤ c) (h1 : c < 256) : ∀ {j : Nat}, (∀ k, k < j → 0 ≤ nextB s (i + 1 + k)) → 0 ≤ accT s i c j ∧ accT s i c j < 256 * 64 ^ j
  | 0, _ => by simp [accT]; omega
  | j + 1, h => by
    have ⟨a, b⟩ := accT_bd h0 h1 (j := j) (fun k hk => h k (by omega))
    have n0 := h j (by omega)
    have n1 := (nextB_bd s (i + 1 + j)).2
    simp only [accT, Int.pow_succ]
    omega
theorem accT_3 {s : ByteArray} {i : Nat} {c : Int} (h0 : 0 ≤ c) (h1 : c < 256) {j : Nat} (hj : j ≤ 3) (h : ∀ k, k < j → 0 ≤ nextB s (i + 1 + k)) : 0 ≤ accT s i c j ∧ accT s i c j < 67108864 := by
  have ⟨a, b⟩ := accT_bd h0 h1 h
  refine ⟨a, ?_⟩
  match j, hj with
  | 0, _ => omega
  | 1, _ => omega
  | 2, _ => omega
  | 3, _ => omega
/-- What stands at the end of the program's Rune. -/
def endR (r : Int) (n : Nat) : Int × Int := if r < leastT n then (0, 0) else if mayR r then (r, (n : Int)) else (0, 0)
theorem form_le (c : Nat) : 1 ≤ formT c ∧ formT c ≤ 5 := by unfold formT; split <;> (try split) <;> (try split) <;> (try split) <;> (try split) <;> omega
theorem form_1 {c : Nat} (h : formT c = 1) : c < 128 := by
  unfold formT at h
  split at h
  · assumption
  · split at h <;> (try split at h) <;> (try split at h) <;> (try split at h) <;> omega
theorem form_2 {c : Nat} (h : formT c = 2) : 192 ≤ c ∧ c < 224 := by
  unfold formT at h
  split at h
  · omega
  · split at h
    · omega
    · split at h
      · omega
      · split at h <;> (try split at h) <;> omega
theorem form_3 {c : Nat} (h : formT c = 3) : 224 ≤ c ∧ c < 240 := by
  unfold formT at h
  split at h
  · omega
  · split at h
    · omega
    · split at h
      · omega
      · split at h
        · omega
        · split at h <;> omega
theorem form_4 {c : Nat} (h : formT c = 4) : 240 ≤ c ∧ c < 248 := by
  unfold formT at h
  split at h
  · omega
  · split at h
    · omega
    · split at h
      · omega
      · split at h
        · omega
        · split at h <;> omega
theorem form_5 {c : Nat} (h : formT c = 5) : (128 ≤ c ∧ c < 192) ∨ 248 ≤ c := by
  unfold formT at h
  split at h
  · omega
  · split at h
    · omega
    · split at h
      · omega
      · split at h
        · omega
        · split at h <;> omega
theorem runeT_at {s : ByteArray} {i : Nat} (hi : i < s.size) : runeT s i = runeC s[i].toNat (nextB s (i + 1)) (nextB s (i + 2)) (nextB s (i + 3)) := by rw [runeT, dif_pos hi]
/-- No form begins so. -/
theorem rune_none {s : ByteArray} {i : Nat} (hi : i < s.size) (h : formT s[i].toNat = 5) : runeT s i = (0, 0) := by
  rw [runeT_at hi, runeC]
  have := form_5 h
  rw [if_neg (by omega), if_pos (by omega)]
/-- Some byte that is to go on does not. -/
theorem rune_cut {s : ByteArray} {i : Nat} (hi : i < s.size) {n j : Nat} (hn : n ≤ 4) (h : formT s[i].toNat = n) (hj : j + 1 < n) (hb : nextB s (i + 1 + j) < 0) : runeT s i = (0, 0) := by
  rw [runeT_at hi, runeC]
  generalize ha : nextB s (i + 1) = a
  generalize hb2 : nextB s (i + 2) = b
  generalize hd : nextB s (i + 3) = d
  match n, j, hn, hj with
  | 2, 0, _, _ =>
    have := form_2 h
    rw [show i + 1 + 0 = i + 1 from rfl, ha] at hb
    rw [if_neg (by omega)]
    split
    · rfl
    · rw [if_neg (by omega), if_neg (by omega), if_neg (by omega)]
  | 3, 0, _, _ =>
    have := form_3 h
    rw [show i + 1 + 0 = i + 1 from rfl, ha] at hb
    rw [if_neg (by omega)]
    split
    · rfl
    · rw [if_neg (by omega), if_neg (by omega), if_neg (by omega)]
  | 3, 1, _, _ =>
    have := form_3 h
    rw [show i + 1 + 1 = i + 2 from rfl, hb2] at hb
    rw [if_neg (by omega)]
    split
    · rfl
    · rw [if_neg (by omega), if_neg (by omega), if_neg (by omega)]
  | 4, 0, _, _ =>
    have := form_4 h
    rw [show i + 1 + 0 = i + 1 from rfl, ha] at hb
    rw [if_neg (by omega)]
    split
    · rfl
    · rw [if_neg (by omega), if_neg (by omega), if_neg (by omega)]
  | 4, 1, _, _ =>
    have := form_4 h
    rw [show i + 1 + 1 = i + 2 from rfl, hb2] at hb
    rw [if_neg (by omega)]
    split
    · rfl
    · rw [if_neg (by omega), if_neg (by omega), if_neg (by omega)]
  | 4, 2, _, _ =>
    have := form_4 h
    rw [show i + 1 + 2 = i + 3 from rfl, hd] at hb
    rw [if_neg (by omega)]
    split
    · rfl
    · rw [if_neg (by omega), if_neg (by omega), if_neg (by omega)]
/-- The text ends ahead of the rune's end. -/
theorem rune_short {s : ByteArray} {i : Nat} (hi : i < s.size) {n : Nat} (hn : n ≤ 4) (h : formT s[i].toNat = n) (hs : s.size < i + n) : runeT s i = (0, 0) := by
  have hf := form_le s[i].toNat
  refine rune_cut (j := n - 2) hi hn h (by omega) ?_
  unfold nextB
  rw [dif_neg (by omega)]
  omega
/-- All bytes of the form are there. -/
theorem rune_end {s : ByteArray} {i : Nat} (hi : i < s.size) {n : Nat} (hn : n ≤ 4) (h : formT s[i].toNat = n) (hg : ∀ j, j < n - 1 → 0 ≤ nextB s (i + 1 + j)) : runeT s i = endR (accT s i ((s[i].toNat : Int) - headT n) (n - 1)) n := by
  have hf := form_le s[i].toNat
  have hc := s[i].toNat_lt
  rw [runeT_at hi]
  have B1 := nextB_bd s (i + 1); have B2 := nextB_bd s (i + 2); have B3 := nextB_bd s (i + 3)
  match n, hn, h with
  | 0, _, h => omega
  | 1, _, h =>
    have h1 := form_1 h
    have e : mayR (s[i].toNat : Int) = true := by simp [mayR]; omega
    have ea : accT s i ((s[i].toNat : Int) - headT 1) (1 - 1) = (s[i].toNat : Int) := by simp [accT, headT]
    rw [ea, runeC, endR, leastT, if_pos (by omega), if_neg (by omega), e]
    · rfl
    all_goals (intro h; cases h)
  | 2, _, h =>
    have h2 := form_2 h
    have g0 := hg 0 (by omega)
    rw [show i + 1 + 0 = i + 1 from rfl] at g0
    have ea : accT s i ((s[i].toNat : Int) - headT 2) (2 - 1) = ((s[i].toNat : Int) - 192) * 64 + nextB s (i + 1) := rfl
    rw [ea]
    generalize nextB s (i + 1) = a at *
    by_cases h3 : (s[i].toNat : Int) < 194
    · rw [runeC, if_neg (by omega), if_pos (by omega), endR, leastT, if_pos (by omega)]
    · have e : mayR (((s[i].toNat : Int) - 192) * 64 + a) = true := by simp [mayR]; omega
      rw [runeC, if_neg (by omega), if_neg (by omega), if_pos (by omega), endR, leastT, if_neg (by omega), e]
      rfl
  | 3, _, h =>
    have h2 := form_3 h
    have g0 := hg 0 (by omega)
    have g1 := hg 1 (by omega)
    rw [show i + 1 + 0 = i + 1 from rfl] at g0
    rw [show i + 1 + 1 = i + 2 from rfl] at g1
    have ea : accT s i ((s[i].toNat : Int) - headT 3) (3 - 1) = (((s[i].toNat : Int) - 224) * 64 + nextB s (i + 1)) * 64 + nextB s (i + 2) := rfl
    rw [ea]
    generalize nextB s (i + 1) = a at *
    generalize nextB s (i + 2) = b at *
    rw [runeC, if_neg (by omega), if_neg (by omega), if_neg (by omega), if_pos (by omega), show ((s[i].toNat : Int) - 224) * 4096 + a * 64 + b = (((s[i].toNat : Int) - 224) * 64 + a) * 64 + b by omega]
    generalize hr : (((s[i].toNat : Int) - 224) * 64 + a) * 64 + b = r
    rw [endR, leastT]
    by_cases h3 : r < 2048
    · rw [if_neg (by omega), if_pos h3]
    · rw [if_neg h3]
      by_cases h4 : r < 55296 ∨ 57343 < r
      · have e : mayR r = true := by simp [mayR]; omega
        rw [if_pos (by omega), e]
        rfl
      · have e : mayR r = false := by simp [mayR]; omega
        rw [if_neg (by omega), e]
        rfl
  | 4, _, h =>
    have h2 := form_4 h
    have g0 := hg 0 (by omega)
    have g1 := hg 1 (by omega)
    have g2 := hg 2 (by omega)
    rw [show i + 1 + 0 = i + 1 from rfl] at g0
    rw [show i + 1 + 1 = i + 2 from rfl] at g1
    rw [show i + 1 + 2 = i + 3 from rfl] at g2
    have ea : accT s i ((s[i].toNat : Int) - headT 4) (4 - 1) = ((((s[i].toNat : Int) - 240) * 64 + nextB s (i + 1)) * 64 + nextB s (i + 2)) * 64 + nextB s (i + 3) := rfl
    rw [ea]
    generalize nextB s (i + 1) = a at *
    generalize nextB s (i + 2) = b at *
    generalize nextB s (i + 3) = d at *
    by_cases h5 : 244 < (s[i].toNat : Int)
    · have e : mayR (((((s[i].toNat : Int) - 240) * 64 + a) * 64 + b) * 64 + d) = false := by simp [mayR]; omega
      rw [runeC, if_neg (by omega), if_pos (by omega), endR, e]
      simp
    rw [runeC, if_neg (by omega), if_neg (by omega), if_neg (by omega), if_neg (by omega), if_pos (by omega), show ((s[i].toNat : Int) - 240) * 262144 + a * 4096 + b * 64 + d = ((((s[i].toNat : Int) - 240) * 64 + a) * 64 + b) * 64 + d by omega]
    generalize hr : ((((s[i].toNat : Int) - 240) * 64 + a) * 64 + b) * 64 + d = r
    rw [endR, leastT]
    by_cases h3 : r < 65536
    · rw [if_neg (by omega), if_pos h3]
    · rw [if_neg h3]
      by_cases h4 : r ≤ 1114111
      · have e : mayR r = true := by simp [mayR]; omega
        rw [if_pos (by omega), e]
        rfl
      · have e : mayR r = false := by simp [mayR]; omega
        rw [if_neg (by omega), e]
        rfl
end Go.Proofs.YtnphokhehacfnaaGreatDoor

