/-
  From a law's walk to its row: the arguments opened one by one, and what the row asks of the memory behind the call.
-/
import Derived.Test.YtinpnginjpfbpaaDoorOpen
namespace Go.Proofs.YtinpnginjpfbpaaDoor
open Go.ChangeShapes Go.WideShapes Go.ChangeAt Go.RowKit

theorem wf_i64_iff {n : Int} (h : (Lit.int .i64 n).wf = true) : -9223372036854775808 ≤ n ∧ n ≤ 9223372036854775807 := bounds_i64 h

section
variable {H : Type} {enc : TypeId × Value → H} {P : Program} {W : World} {α : Type} {c : α → List Value} {Q : World → α → Prop} {r : Reach} {base : Nat} {t : TypeId} {v : Value} {d : DataW H} {p : List MemPlace}
theorem Opens.agg {fs : Array Field} (h : Opens P t c Q) (ht : P.underlying t = some (.struct fs)) (hv : Value.okWide P W r base t v) (hd : DataW.Trod enc P W 0 (fun _ => true) true t v d p) (hl : Lim P t d) : ∃ a, v = .agg (c a).toArray ∧ Q W a := by
  obtain ⟨cs, rfl, _⟩ := okWide_struct ht hv
  obtain ⟨a, ha, q⟩ := h.arg hd hl
  exact ⟨a, by rw [← ha]; simp [Value.cells], q⟩
theorem Opens.slice {e : TypeId} {β : Type} {f : β → Value} {Q : World → β → Prop} (h : Opens P t (fun b => [f b]) Q) (ht : P.underlying t = some (.slice e)) (hv : Value.okWide P W r base t v) (hd : DataW.Trod enc P W 0 (fun _ => true) true t v d p) (hl : Lim P t d) : ∃ b, v = f b ∧ Q W b := by
  obtain ⟨A, len, cap, rfl⟩ := okWide_slice ht hv
  obtain ⟨b, hb, q⟩ := h.arg hd hl
  exact ⟨b, by simpa [Value.cells] using hb, q⟩
theorem Opens.int {β : Type} {f : β → Value} {Q : World → β → Prop} {k : IntKind} (h : Opens P t (fun b => [f b]) Q) (ht : P.underlying t = some (.int k)) (hv : Value.okWide P W r base t v) (hd : DataW.Trod enc P W 0 (fun _ => true) true t v d p) (hl : Lim P t d) : ∃ b, v = f b ∧ Q W b := by
  obtain ⟨n, rfl⟩ := okWide_int ht hv
  obtain ⟨b, hb, q⟩ := h.arg hd hl
  exact ⟨b, by simpa [Value.cells] using hb, q⟩
theorem Opens.string {β : Type} {f : β → Value} {Q : World → β → Prop} (h : Opens P t (fun b => [f b]) Q) (ht : P.underlying t = some .string) (hv : Value.okWide P W r base t v) (hd : DataW.Trod enc P W 0 (fun _ => true) true t v d p) (hl : Lim P t d) : ∃ b, v = f b ∧ Q W b := by
  obtain ⟨s, rfl⟩ := okWide_string ht hv
  obtain ⟨b, hb, q⟩ := h.arg hd hl
  exact ⟨b, by simpa [Value.cells] using hb, q⟩
theorem Opens.bool {β : Type} {f : β → Value} {Q : World → β → Prop} (h : Opens P t (fun b => [f b]) Q) (ht : P.underlying t = some .bool) (hv : Value.okWide P W r base t v) (hd : DataW.Trod enc P W 0 (fun _ => true) true t v d p) (hl : Lim P t d) : ∃ b, v = f b ∧ Q W b := by
  obtain ⟨s, rfl⟩ := okWide_bool ht hv
  obtain ⟨b, hb, q⟩ := h.arg hd hl
  exact ⟨b, by simpa [Value.cells] using hb, q⟩
end

section
variable {H : Type} {enc : TypeId × Value → H} {P : Program} {W W' : World}
theorem trodAll_stays {sp : Nat → Bool} (hlo : laidOutB P = true) (hb : Below W.heap.size W W') : ∀ {ts : List TypeId} {vs : List Value} {ds : List (DataW H)} {ps : List MemPlace}, DataW.TrodAll enc P W 0 (fun _ => true) true ts vs ds ps →
    (∀ t ∈ ts, P.readableRec t = true ∧ t < P.types.size) → (∀ x ∈ ps, x.block < W.heap.size ∧ sp x.block = true) → DataW.TrodAll enc P W' 0 sp true ts vs ds ps
  | [], vs, ds, ps, h, _, _ => by
    cases vs <;> cases ds <;> simp_all [DataW.TrodAll]
  | t :: ts, vs, ds, ps, h, ht, hp => by
    obtain ⟨v, vs', d, ds', p, q, rfl, rfl, rfl, h0, h1⟩ := trodAll_cons h
    have k := ht t (by simp)
    exact trodAll_cons_mk (WideElems.Trod_stays hlo k.1 k.2 h0 (fun x hx => hb.same (hp x (by simp [hx])).1) (fun x hx => (hp x (by simp [hx])).2)) (trodAll_stays hlo hb h1 (fun t ht' => ht t (by simp [ht'])) (fun x hx => hp x (by simp [hx])))

/-- What the row asks behind a law's call: true, and each argument reads as it read. -/
theorem law_post {fn : Func} {s : ChangeSpec} {tb : TypeId} {args : Array Value} {ds gs : List (DataW H)} {before : List MemPlace} (hlo : laidOutB P = true) (hrd : fn.params.toList.all (fun t => P.readableRec t && decide (t < P.types.size)) = true) (hr : fn.resultTypes = #[tb]) (htb : P.underlying tb = some .bool) (hvars : s.vars = [])
    (hspec : s.fn H ds = { results := [.lit (.bool true)], args := ds }) (hW : DataW.Whole enc P fn.params.toList s.vars false W args.toList ds gs before) (hb : Below W.heap.size W W') : s.post enc P fn false true false false W args (.bool true) W' := by
  obtain ⟨p, q, hA, hV, rfl, hfz, hnd⟩ := id hW
  rw [hvars] at hV
  obtain ⟨rfl, rfl⟩ := trodVars_none hV
  have hlt : ∀ x ∈ p ++ ([] : List MemPlace), x.block < W.heap.size := fun x hx => hW.lt x hx
  refine post_of_below (pa := p) (pv := []) hW (fun b sp hd => ?_) (fun sp hsp => ?_) (fun sp hsp => ?_) rfl hb ?_
  · rw [List.append_nil, hspec, hr]
    exact trodAll_cons_mk (shut_bool htb _) trodAll_mk0
  · rw [List.append_nil, hspec]
    exact trodAll_stays hlo hb hA (fun t ht => by simpa using List.all_eq_true.1 hrd t ht) (fun x hx => ⟨hlt x (by simp [hx]), hsp x (by simp [hx])⟩)
  · rw [List.append_nil, hspec, hvars]
    exact rfl
  · exact ok_one hr rfl (okWide_bool_mk htb _)
theorem lim_each {ts : List TypeId} {ds : List (DataW H)} (h : (DataW.weightsEach P ts ds).all (· ≤ reachBytes) = true) : ∀ n ∈ DataW.weightsEach P ts ds, n ≤ reachBytes := fun n hn => by simpa using List.all_eq_true.1 h n hn
theorem lim_cons {t : TypeId} {ts : List TypeId} {d : DataW H} {ds : List (DataW H)} (h : ∀ n ∈ DataW.weightsEach P (t :: ts) (d :: ds), n ≤ reachBytes) : Lim P t d ∧ ∀ n ∈ DataW.weightsEach P ts ds, n ≤ reachBytes :=
  ⟨fun n hn => h n (by simp only [DataW.weightsEach, List.mem_append]; exact .inl hn), fun n hn => h n (by simp only [DataW.weightsEach, List.mem_append]; exact .inr hn)⟩
end

/-! ### What the bound of the second form gives -/
theorem bulk_one {H : Type} (d : DataW H) : 1 ≤ Rows.uptoBulk d := by
  cases d with
  | lit l => cases l <;> simp [Rows.uptoBulk]
  | nil => simp [Rows.uptoBulk]
  | ptr d => simp [Rows.uptoBulk]
  | slice elems spare => simp [Rows.uptoBulk]
  | agg parts => simp [Rows.uptoBulk]
  | iface t d => simp [Rows.uptoBulk]
  | map entries => simp [Rows.uptoBulk]
  | held h => simp [Rows.uptoBulk]
theorem bulk_len {H : Type} (l : List (DataW H)) : l.length ≤ Rows.uptoBulkAll l := by
  induction l with
  | nil => simp [Rows.uptoBulkAll]
  | cons x r ih => have := bulk_one x; simp only [Rows.uptoBulkAll, List.length_cons]; omega
theorem bulk_all {H : Type} {l : List (DataW H)} (hk : Rows.uptoSmall H l = true) : Rows.uptoBulkAll l ≤ 1048576 := of_decide_eq_true hk
theorem bulk_mem {H : Type} {d : DataW H} {l : List (DataW H)} (h : d ∈ l) : Rows.uptoBulk d ≤ Rows.uptoBulkAll l := by
  induction l with
  | nil => cases h
  | cons x r ih =>
    simp only [Rows.uptoBulkAll]
    cases List.mem_cons.1 h with
    | inl e => subst e; omega
    | inr e => have := ih e; omega
/-- A slice's length is at most its bulk. -/
theorem bulk_slice {H : Type} {enc : TypeId × Value → H} {P : Program} {W : World} {t e : TypeId} {A : Option Addr} {len cap : Nat} {d : DataW H} {p : List MemPlace} (ht : P.underlying t = some (.slice e)) (h : DataW.Trod enc P W 0 (fun _ => true) true t (.slice A len cap) d p) : len ≤ Rows.uptoBulk d ∧ cap ≤ Rows.uptoBulk d := by
  obtain ⟨fuel, hx⟩ := h
  rcases Go.Deep.open_slice ht hx with ⟨h1, h2⟩ | ⟨a, len', cap', m, n, D, Pl, h1, _, hlc, hcm, hm, h2, _⟩
  · simp [Value.cells] at h1
    obtain ⟨_, rfl, rfl⟩ := h1
    exact ⟨Nat.zero_le _, Nat.zero_le _⟩
  · simp [Value.cells] at h1
    obtain ⟨_, rfl, rfl⟩ := h1
    simp only [if_true] at hm
    subst hm
    simp only [Prod.mk.injEq] at h2
    rw [h2.1]
    simp only [Rows.uptoBulk]
    have k1 := bulk_len ((List.range len).map D)
    have k2 := bulk_len ((List.range (m - len)).map fun j => D (len + j))
    simp only [List.length_map, List.length_range] at k1 k2
    omega
end Go.Proofs.YtinpnginjpfbpaaDoor
