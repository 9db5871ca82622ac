/-
  Texts put together: Xh, Xi, Dw.
-/
import Derived.Test.YtnphokhehacfnaaGreatDoorCz24
import Derived.Test.YtnphokhehacfnaaGreatDoorCz25
import Derived.Test.YtnphokhehacfnaaGreatDoorCz26
namespace Go.Proofs.YtnphokhehacfnaaGreatDoor
open Go.RowKit

theorem find_at {α : Type} (p : α → Bool) : ∀ l : List α, l[l.findIdx p]? = l.find? p
  | [] => rfl
  | x :: l => by
    rw [List.findIdx_cons, List.find?_cons]
    cases h : p x with
    | true => rfl
    | false => exact find_at p l
theorem idx_find {α : Type} {p : α → Bool} {l : List α} : 0 ≤ idx p l ↔ (l.find? p).isSome = true := by
  rw [← find_at]
  unfold idx
  split
  · rename_i h
    rw [List.getElem?_eq_getElem h]
    exact ⟨fun _ => rfl, fun _ => by omega⟩
  · rename_i h
    rw [List.getElem?_eq_none (by omega)]
    exact ⟨fun h1 => by omega, fun h1 => by cases h1⟩
theorem fldB_eq (s : Sch) (fs : List Fld) (k : Nat) (f : Fld) : fldB s fs k f = match s.cols.find? (colId f.source) with
    | none => false
    | some c => paramB f && (!(f.trans == 2 && c.kind == 2) && !(fs.take k).any (sameF f)) := by
  unfold fldB
  rw [List.getD_eq_getElem?_getD, find_at]
  cases h : s.cols.find? (colId f.source) with
  | none =>
    rw [decide_eq_false (by rw [idx_find, h]; simp)]
    rfl
  | some c =>
    rw [decide_eq_true (by rw [idx_find, h]; rfl)]
    rfl
/-- A spec may be still where its columns are found with their kinds. -/
theorem spec_keep {s s' : Sch} {id : Int} {fs : List Fld} (h : specB id fs s = true) (hm : mayB s' = true) (hk : ∀ f ∈ fs, ∀ c, s.cols.find? (colId f.source) = some c → ∃ c', s'.cols.find? (colId f.source) = some c' ∧ c'.kind = c.kind) : specB id fs s' = true := by
  unfold specB at h ⊢
  rw [Bool.and_eq_true, Bool.and_eq_true, Bool.and_eq_true, Bool.and_eq_true] at h ⊢
  obtain ⟨_, h1, h2, h3, h4⟩ := h
  refine ⟨hm, h1, h2, h3, ?_⟩
  rw [fldsUpto_iff] at h4 ⊢
  intro i hi f hf
  have := h4 i hi f hf
  rw [fldB_eq] at this ⊢
  cases hc : s.cols.find? (colId f.source) with
  | none => rw [hc] at this; cases this
  | some c =>
    rw [hc] at this
    obtain ⟨c', hc', e⟩ := hk f (List.mem_of_getElem? hf) c hc
    rw [hc']
    show (paramB f && (!(f.trans == 2 && c'.kind == 2) && _)) = true
    rw [e]
    exact this
theorem rowW_iff {cols : List Col} {vs : List Val} : rowW cols vs = true ↔ vs.length = cols.length ∧ ∀ (i : Nat) (c : Col) (v : Val), cols[i]? = some c → vs[i]? = some v → wholeB c.kind v = true := by
  unfold rowW
  rw [Bool.and_eq_true, beq_iff_eq, wholeUpto_iff]
  constructor
  · rintro ⟨h1, h2⟩
    exact ⟨h1, fun i c v hc hv => h2 i (List.getElem?_eq_some_iff.1 hc).1 c v hc hv⟩
  · rintro ⟨h1, h2⟩
    exact ⟨h1, fun i _ c v hc hv => h2 i c v hc hv⟩
theorem zero_whole (k : Int) : wholeB k Val.zero = true := by
  unfold wholeB
  rw [show clean Val.zero = Val.zero from rfl, sameV_iff.2 rfl]
  rfl
theorem all_rowsM {vss : List (List Val)} {p q : List Val → Bool} {f : List Val → List Val} (h : vss.all p = true) (hf : ∀ vs, p vs = true → q (f vs) = true) : (vss.map f).all q = true := by
  rw [List.all_eq_true] at h ⊢
  intro x hx
  obtain ⟨y, hy, rfl⟩ := List.mem_map.1 hx
  exact hf y (h y hy)
/-- Behind an added column. -/
theorem addc_may {t u : Tb} {o : Opp} (ht : tabB t = true) (h : addcP t o = .ok u) : tabB u = true ∧ u.rows.length = t.rows.length := by
  obtain ⟨hm, hs, hl, hr⟩ := tabB_iff.1 ht
  rw [addcP_eq] at h
  split at h
  · cases h
  · rename_i h0
    injection h with h
    subst h
    have h0 : (addR t.s o.name o.ck).2 = 0 := by omega
    obtain ⟨hc, hm'⟩ := addR_iv (t := (addR t.s o.name o.ck).1) (show addR t.s o.name o.ck = (_, 0) by rw [← h0])
    refine ⟨tabB_iff.2 ⟨hm', spec_keep hs hm' fun f _ c hfc => ⟨c, ?_, rfl⟩, by simpa using hl, all_rowsM hr fun vs hvs => ?_⟩, by simp⟩
    · rw [hc, List.find?_append, hfc]
      rfl
    · obtain ⟨h1, h2⟩ := rowW_iff.1 hvs
      refine rowW_iff.2 ⟨by rw [hc]; simp [h1], fun i c v hci hvi => ?_⟩
      rw [hc] at hci
      by_cases hi : i < vs.length
      · rw [List.getElem?_append_left (by omega)] at hci hvi
        exact h2 i c v hci hvi
      · rw [List.getElem?_append_right (by omega)] at hvi
        have hv : v ∈ [Val.zero] := List.mem_of_getElem? hvi
        simp at hv
        subst hv
        exact zero_whole _
theorem find_setName {q : Col → Bool} (hq : ∀ (c : Col) (n : ByteArray), q { c with name := n } = q c) (nw : ByteArray) {c : Col} : ∀ (l : List Col) (k : Nat), l.find? q = some c → ∃ c', (setName l k nw).find? q = some c' ∧ c'.kind = c.kind
  | [], _, h => by simp at h
  | x :: r, 0, h => by
    show ∃ c', (({ x with name := nw } : Col) :: r).find? q = some c' ∧ _
    rw [List.find?_cons] at h ⊢
    rw [hq]
    cases hp : q x with
    | true =>
      rw [hp] at h
      injection h with h
      subst h
      exact ⟨_, rfl, rfl⟩
    | false =>
      rw [hp] at h
      exact ⟨c, h, rfl⟩
  | x :: r, k + 1, h => by
    show ∃ c', (x :: setName r k nw).find? q = some c' ∧ _
    rw [List.find?_cons] at h ⊢
    cases hp : q x with
    | true =>
      rw [hp] at h
      exact ⟨c, h, rfl⟩
    | false =>
      rw [hp] at h
      exact find_setName hq nw r k h
theorem ren_may {t u : Tb} {o : Opp} (ht : tabB t = true) (h : shapeP t (renameR t.s o.col o.name) = .ok u) : tabB u = true ∧ u.rows.length = t.rows.length := by
  obtain ⟨hm, hs, hl, hr⟩ := tabB_iff.1 ht
  unfold shapeP at h
  split at h
  · cases h
  · rename_i h0
    injection h with h
    subst h
    have h0 : (renameR t.s o.col o.name).2 = 0 := by omega
    obtain ⟨hc, hm'⟩ := renameR_iv (t := (renameR t.s o.col o.name).1) (show renameR t.s o.col o.name = (_, 0) by rw [← h0])
    have kd : ∀ (i : Nat) (c' : Col), (renameR t.s o.col o.name).1.cols[i]? = some c' → ∃ c, t.s.cols[i]? = some c ∧ c'.kind = c.kind ∧ c'.id = c.id := by
      intro i c' h
      rw [hc, setName, List.getElem?_modify] at h
      cases hci : t.s.cols[i]? with
      | none => rw [hci] at h; cases h
      | some c =>
        rw [hci] at h
        refine ⟨c, rfl, ?_⟩
        have h : (if t.s.cols.findIdx (named o.col) = i then { c with name := o.name } else c) = c' := Option.some.inj h
        subst h
        split <;> exact ⟨rfl, rfl⟩
    refine ⟨tabB_iff.2 ⟨hm', spec_keep hs hm' fun f _ c hfc => ?_, hl, ?_⟩, rfl⟩
    · rw [hc]
      exact find_setName (fun c n => rfl) o.name _ _ hfc
    · show t.rows.all _ = true
      rw [List.all_eq_true] at hr ⊢
      intro vs hvs
      obtain ⟨h1, h2⟩ := rowW_iff.1 (hr vs hvs)
      refine rowW_iff.2 ⟨by rw [h1, hc, setName, List.length_modify], fun i c v hci hvi => ?_⟩
      obtain ⟨c0, hc0, e, _⟩ := kd i c hci
      rw [e]
      exact h2 i c0 v hc0 hvi
theorem find_erase {α : Type} {p : α → Bool} {x : α} : ∀ (l : List α) (k : Nat), l.find? p = some x → (∀ y, l[k]? = some y → p y = false) → (l.eraseIdx k).find? p = some x
  | [], _, h, _ => by simp at h
  | a :: r, 0, h, hk => by
    rw [List.find?_cons, hk a rfl] at h
    exact h
  | a :: r, k + 1, h, hk => by
    show (a :: r.eraseIdx k).find? p = _
    rw [List.find?_cons] at h ⊢
    cases hp : p a with
    | true => rw [hp] at h; exact h
    | false => rw [hp] at h; exact find_erase r k h fun y hy => hk y hy
theorem drop_may {t u : Tb} {o : Opp} (ht : tabB t = true) (h : dropP t o = .ok u) : tabB u = true ∧ u.rows.length = t.rows.length := by
  obtain ⟨hm, hs, hl, hr⟩ := tabB_iff.1 ht
  by_cases hi : idx (named o.col) t.s.cols < 0
  · rw [dropP, if_pos hi] at h; cases h
  · obtain ⟨y1, hxl⟩ := idx_yes (p := named o.col) (l := t.s.cols) (by omega)
    obtain ⟨c, hc⟩ : ∃ c, t.s.cols[t.s.cols.findIdx (named o.col)]? = some c := ⟨_, List.getElem?_eq_getElem hxl⟩
    rw [dropP_go hi rfl hc] at h
    split at h
    · cases h
    · rename_i ha
      split at h
      · cases h
      · rename_i h0
        injection h with h
        subst h
        have h0 : (dropR t.s o.col).2 = 0 := by omega
        have hd : (dropR t.s o.col).1.cols = t.s.cols.eraseIdx (t.s.cols.findIdx (named o.col)) ∧ mayB (dropR t.s o.col).1 = true := by
          by_cases h1 : t.s.cols.length = 1
          · rw [dropR_one hm hi h1] at h0; exact absurd h0 (by decide)
          · rw [dropR_next hm hi h1] at h0 ⊢
            obtain ⟨e, hm'⟩ := nextR_iv (t := (nextR ⟨t.s.id + 1, t.s.cols.eraseIdx (t.s.cols.findIdx (named o.col)), t.s.next⟩).1) (show nextR _ = (_, 0) by rw [← h0])
            exact ⟨by rw [← e], hm'⟩
        refine ⟨tabB_iff.2 ⟨hd.2, spec_keep hs hd.2 fun f hf c' hfc => ⟨c', ?_, rfl⟩, by simpa using hl, all_rowsM hr fun vs hvs => ?_⟩, by simp⟩
        · rw [hd.1]
          refine find_erase _ _ hfc fun y hy => ?_
          rw [hc] at hy
          injection hy with hy
          subst hy
          cases hq : colId f.source c with
          | false => rfl
          | true =>
            exfalso
            apply ha
            rw [List.any_eq_true]
            refine ⟨f, hf, ?_⟩
            unfold colId at hq
            rw [beq_iff_eq] at hq ⊢
            omega
        · obtain ⟨h1, h2⟩ := rowW_iff.1 hvs
          refine rowW_iff.2 ⟨by rw [hd.1, List.length_eraseIdx, List.length_eraseIdx, h1], fun i c' v hci hvi => ?_⟩
          rw [hd.1, List.getElem?_eraseIdx] at hci
          rw [List.getElem?_eraseIdx] at hvi
          split at hci
          · rename_i hq
            rw [if_pos hq] at hvi
            exact h2 i c' v hci hvi
          · rename_i hq
            rw [if_neg hq] at hvi
            exact h2 (i + 1) c' v hci hvi
theorem part_may {t u : Tb} {o : Opp} (ht : tabB t = true) (h : partP25 t o = .ok u) : tabB u = true ∧ u.rows.length = t.rows.length := by
  obtain ⟨hm, hs, hl, hr⟩ := tabB_iff.1 ht
  have hs2 := hs
  unfold specB at hs2
  rw [Bool.and_eq_true, Bool.and_eq_true, Bool.and_eq_true, decide_eq_true_iff, decide_eq_true_iff] at hs2
  have e : wrap64 (t.sid + 1) = t.sid + 1 := by have h1 := hs2.2.1; have h2 := hs2.2.2.1; rw [wrap64]; omega
  unfold partP25 at h
  rw [e] at h
  split at h
  · cases h
  · rename_i h0
    injection h with h
    subst h
    exact ⟨tabB_iff.2 ⟨hm, (by cases hb : specB (t.sid + 1) o.fs t.s with | false => exact absurd hb h0 | true => rfl), hl, hr⟩, rfl⟩
end Go.Proofs.YtnphokhehacfnaaGreatDoor

namespace Go.Proofs.YtnphokhehacfnaaGreatDoor
open Go.RowKit

theorem rowW_ok {s : Sch} {vs : List Val} (h : rowW s.cols vs = true) : rowB s vs = true := by
  obtain ⟨h1, h2⟩ := rowW_iff.1 h
  rw [rowB_of h1, rowUpto_iff]
  intro i _ c v hc hv
  have := h2 i c v hc hv
  unfold wholeB fitsB at this
  unfold cellOk
  rw [Bool.and_eq_true, Bool.or_eq_true, Bool.and_eq_true, Bool.and_eq_true] at this
  rw [Bool.or_eq_true]
  rcases this.2 with h3 | h3
  · exact .inl h3
  · exact .inr h3.1.1
theorem rows_okT {t : Tb} (ht : tabB t = true) (k : Nat) : rowsOk t.s t.rows k = true := by
  unfold rowsOk
  rw [List.all_eq_true]
  intro vs hvs
  exact rowW_ok (List.all_eq_true.1 (tabB_iff.1 ht).2.2.2 vs (List.mem_of_mem_take hvs))
theorem pures {t : Tb} (ht : tabB t = true) {l : List (List Val)} (h : ∀ vs ∈ l, vs ∈ t.rows) : l.map (List.map clean) = l := by
  refine (List.map_congr_left (g := id) fun vs hvs => ?_).trans (List.map_id _)
  have := may_pure ht vs (h vs hvs)
  unfold Pure at this
  exact this
theorem selT {t : Tb} {ns : List Nod} (ht : tabB t = true) (hc : checkE ns t.s = 0) : (selR ns t.s t.rows).1 = yesTo ns t.s t.rows t.rows.length := by
  rw [selR, if_neg (by omega), if_pos (rows_okT ht _)]
theorem apply_inv {t u : Tb} {o : Opp} (h : applyP t o = (u, 0)) : tabB t = true ∧ 0 ≤ o.kind ∧ o.kind ≤ 8 ∧ runP t o = .ok u := by
  unfold applyP at h
  split at h
  · injection h with _ h; omega
  · rename_i hq
    have hq : tabB t = true ∧ 0 ≤ o.kind ∧ o.kind ≤ 8 := by
      refine ⟨?_, by omega, by omega⟩
      cases hb : tabB t with
      | false => exact absurd (Or.inl hb) hq
      | true => rfl
    refine ⟨hq.1, hq.2.1, hq.2.2, ?_⟩
    split at h
    · rename_i hr
      injection h with _ h
      exact absurd h (run_err hr)
    · rename_i hr
      injection h with h
      rw [hr, h]
def turned (o : Opp) : Opp := { o with kind := 3 - o.kind }
theorem twice_rest {t u : Tb} {o : Opp} (h : applyP t o = (u, 0)) (hk : 4 ≤ o.kind) : u.rows.length = t.rows.length ∧ tabB u = true := by
  obtain ⟨ht, _, h8, hr⟩ := apply_inv h
  rw [runP, if_neg (by omega), if_neg (by omega), if_neg (by omega)] at hr
  split at hr
  · have := addc_may ht hr; exact ⟨this.2, this.1⟩
  split at hr
  · have := drop_may ht hr; exact ⟨this.2, this.1⟩
  split at hr
  · have := ren_may ht hr; exact ⟨this.2, this.1⟩
  split at hr
  · have := part_may ht hr; exact ⟨this.2, this.1⟩
  · injection hr with hr
    subst hr
    exact ⟨rfl, ht⟩
end Go.Proofs.YtnphokhehacfnaaGreatDoor

namespace Go.Proofs.YtnphokhehacfnaaGreatDoor
open Go.RowKit

/-- A table of numbers, or none. -/
def rowG (v : Val) : List Val := [v, Val.zero]
def tabG (vs : List Val) : Tb := ⟨sb25, 0, [], vs.map rowG⟩
def okG (v : Val) : Prop := v = Val.zero ∨ ∃ x, v = kv25 x
/-- An update of column a. -/
def opUpd (ns : List Nod) (v : Val) : Opp := ⟨3, [], [], ns, ⟨#[97]⟩, ⟨#[]⟩, 0, v, [], 0⟩
end Go.Proofs.YtnphokhehacfnaaGreatDoor

