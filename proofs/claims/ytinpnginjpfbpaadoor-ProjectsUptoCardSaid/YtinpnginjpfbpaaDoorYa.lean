/-
  Plain: which files may be; a file's rows under a schema; some columns of rows.
-/
import Derived.Test.YtinpnginjpfbpaaDoorYu
import Derived.Test.YtinpnginjpfbpaaDoorPrP
import Derived.Test.YtinpnginjpfbpaaDoorSp
namespace Go.Proofs.YtinpnginjpfbpaaDoor
open Go.RowKit

theorem clean_small (v : Val) (h : (clean v).s = v.s → v.s.size ≤ 9223372036854775807) : (clean v).s.size ≤ 9223372036854775807 := by
  by_cases h3 : v.kind = 3
  · have e : (clean v).s = v.s := by simp [clean, h3]
    rw [e]; exact h e
  · have e : (clean v).s = .empty := by
      unfold clean
      by_cases h1 : v.kind = 1
      · rw [if_pos h1]
      by_cases h2 : v.kind = 2
      · rw [if_neg h1, if_pos h2]
      rw [if_neg h1, if_neg h2, if_neg h3]
      rfl
    rw [e]; exact Nat.zero_le _
/-- Is a value null, or of a kind, and not too long? -/
def fitsB (kind : Int) (v : Val) : Bool := kindV v == 0 || (kindV v == kind && decide ((clean v).s.size ≤ 64) && validB (clean v).s)
def colB (rows last : Int) (c : Col) (vs : List Val) : Bool := decide (last < c.id) && c.name.size == 0 && kindB c.kind && decide ((vs.length : Int) = rows) && vs.all (fitsB c.kind)
def colsB (rows : Int) : Int → List Col → List (List Val) → Bool
  | last, c :: cs, v :: vs => colB rows last c v && colsB rows c.id cs vs
  | _, _, _ => true
def fileB (rows : Int) (cols : List Col) (vals : List (List Val)) : Bool :=
  decide (0 ≤ rows) && decide (rows ≤ 4096) && decide (1 ≤ cols.length) && decide (cols.length ≤ 12) && decide (vals.length = cols.length) && colsB rows 0 cols vals
theorem fileB_iff {rows : Int} {cols : List Col} {vals : List (List Val)} : fileB rows cols vals = true ↔ (0 ≤ rows ∧ rows ≤ 4096 ∧ 1 ≤ cols.length ∧ cols.length ≤ 12 ∧ vals.length = cols.length) ∧ colsB rows 0 cols vals = true := by
  unfold fileB
  simp only [Bool.and_eq_true, decide_eq_true_eq]
  constructor
  · rintro ⟨⟨⟨⟨⟨a, b⟩, c⟩, d⟩, e⟩, f⟩; exact ⟨⟨a, b, c, d, e⟩, f⟩
  · rintro ⟨⟨a, b, c, d, e⟩, f⟩; exact ⟨⟨⟨⟨⟨a, b⟩, c⟩, d⟩, e⟩, f⟩
theorem colsB_len : ∀ {cols : List Col} {vals : List (List Val)} {rows last : Int}, colsB rows last cols vals = true → ∀ (k : Nat) (c : Col) (vs : List Val), cols[k]? = some c → vals[k]? = some vs → (vs.length : Int) = rows ∧ last < c.id ∧ vs.all (fitsB c.kind) = true
  | [], _, _, _, _, k, _, _, hc, _ => by simp at hc
  | _ :: _, [], _, _, _, k, _, _, _, hv => by simp at hv
  | c :: cs, v :: vs, rows, last, h, 0, c', vs', hc, hv => by
    simp at hc hv
    subst hc hv
    simp only [colsB, colB, Bool.and_eq_true, decide_eq_true_eq] at h
    exact ⟨h.1.1.2, h.1.1.1.1.1, h.1.2⟩
  | c :: cs, v :: vs, rows, last, h, k + 1, c', vs', hc, hv => by
    simp only [colsB, colB, Bool.and_eq_true, decide_eq_true_eq] at h
    obtain ⟨h1, h2, h3⟩ := colsB_len h.2 k c' vs' (by simpa using hc) (by simpa using hv)
    exact ⟨h1, by omega, h3⟩

/-- The place of a column's Id among a file's. -/
def byId (id : Int) (o : Col) : Bool := o.id == id
def fromOk (fc : List Col) (c : Col) : Bool := if 0 ≤ idx (byId c.id) fc then (match fc[(idx (byId c.id) fc).toNat]? with | some o => o.kind == c.kind | none => false) else true
def fromT (fc : List Col) (cs : List Col) : List Int := cs.map fun c => idx (byId c.id) fc
def toCell (vals : List (List Val)) (i : Nat) (at_ : Int) : Val := if 0 ≤ at_ then clean ((vals.getD at_.toNat []).getD i Val.zero) else Val.zero
def toRow (vals : List (List Val)) (fr : List Int) (i : Nat) : List Val := fr.map (toCell vals i)
def toR (s : Sch) (rows : Int) (fc : List Col) (vals : List (List Val)) : List (List Val) × Int :=
  if mayB s = true ∧ fileB rows fc vals = true ∧ s.cols.all (fromOk fc) = true then ((List.range rows.toNat).map (toRow vals (fromT fc s.cols)), 0) else ([], 1400)

def pickFr (cols : List Col) (names : List ByteArray) : List Int := names.map fun nm => idx (named nm) cols
def pickRow (fr : List Int) (vs : List Val) : List Val := fr.map fun k => clean (vs.getD k.toNat Val.zero)
def pickR (s : Sch) (rs : List (List Val)) (names : List ByteArray) : List (List Val) × Int :=
  if mayB s = true ∧ names.all (fun nm => decide (0 ≤ idx (named nm) s.cols)) = true ∧ rs.all (fun vs => vs.length == s.cols.length) = true then (rs.map (pickRow (pickFr s.cols names)), 0) else ([], 1400)

theorem idx_own {α : Type} {p : α → Bool} {l : List α} {a : Nat} (ha : a < l.length) (hp : p l[a] = true) (hn : ∀ j (hj : j < a), p l[j] = false) : idx p l = (a : Int) := by
  have h1 : l.findIdx p < l.length := List.findIdx_lt_length_of_exists ⟨l[a], List.getElem_mem ha, hp⟩
  have h2 : p l[l.findIdx p] = true := List.findIdx_getElem (w := h1)
  have h3 : l.findIdx p = a := by
    rcases Nat.lt_trichotomy (l.findIdx p) a with h | h | h
    · rw [hn _ h] at h2; cases h2
    · exact h
    · have := List.not_of_lt_findIdx h
      rw [hp] at this; simp at this
  rw [idx, h3, if_pos ha]
theorem idx_name {s : Sch} (h : mayB s = true) {a : Nat} (ha : a < s.cols.length) : idx (named s.cols[a].name) s.cols = (a : Int) := by
  obtain ⟨_, _, hp⟩ := mayB_iff.1 h
  rw [List.pairwise_iff_getElem] at hp
  refine idx_own ha (by simp [named]) fun j hj => ?_
  have := (clash_iff.1 (hp j a (by omega) ha hj)).2
  simpa [named] using this

/-- Names picked. -/
theorem picks_ok {s : Sch} {rs : List (List Val)} {names : List ByteArray} (h : (pickR s rs names).2 = 0) : mayB s = true ∧ names.all (fun nm => decide (0 ≤ idx (named nm) s.cols)) = true ∧ rs.all (fun vs => vs.length == s.cols.length) = true := by
  unfold pickR at h
  split at h
  · assumption
  · simp at h
theorem pickR_bad {s : Sch} {rs : List (List Val)} {names : List ByteArray} (h : (pickR s rs names).2 ≠ 0) : (pickR s rs names).1 = [] := by
  unfold pickR at h ⊢
  split
  · rename_i hc; rw [if_pos hc] at h; simp at h
  · rfl
theorem pickR_len {s : Sch} {rs : List (List Val)} {names : List ByteArray} (h : (pickR s rs names).2 = 0) : (pickR s rs names).1 = rs.map (pickRow (pickFr s.cols names)) := by
  have := picks_ok h
  unfold pickR
  rw [if_pos this]
theorem toR_bad {s : Sch} {rows : Int} {fc : List Col} {vals : List (List Val)} (h : (toR s rows fc vals).2 ≠ 0) : (toR s rows fc vals).1 = [] := by
  unfold toR at h ⊢
  split
  · rename_i hc; rw [if_pos hc] at h; simp at h
  · rfl
theorem toR_ok {s : Sch} {rows : Int} {fc : List Col} {vals : List (List Val)} (h : (toR s rows fc vals).2 = 0) : (mayB s = true ∧ fileB rows fc vals = true ∧ s.cols.all (fromOk fc) = true) ∧ (toR s rows fc vals).1 = (List.range rows.toNat).map (toRow vals (fromT fc s.cols)) := by
  unfold toR at h ⊢
  split
  · rename_i hc; exact ⟨hc, rfl⟩
  · rename_i hc; rw [if_neg hc] at h; simp at h
theorem toR_len {s : Sch} {rows : Int} {fc : List Col} {vals : List (List Val)} (h : (toR s rows fc vals).2 = 0) : ((toR s rows fc vals).1.length : Int) = rows := by
  obtain ⟨⟨_, hf, _⟩, he⟩ := toR_ok h
  have := (fileB_iff.1 hf).1.1
  rw [he]
  simp
  omega

theorem nextR_iv {s t : Sch} (h : nextR s = (t, 0)) : s = t ∧ mayB t = true := by
  unfold nextR at h
  split at h
  · rename_i hm
    simp at h
    subst h
    exact ⟨rfl, hm⟩
  · simp at h
theorem renameR_iv {s t : Sch} {nm to : ByteArray} (h : renameR s nm to = (t, 0)) : t.cols = setName s.cols (s.cols.findIdx (named nm)) to ∧ mayB t = true := by
  unfold renameR at h
  split at h
  · simp at h
  split at h
  · simp at h
  split at h
  · simp at h
  split at h
  · simp at h
  obtain ⟨rfl, hm⟩ := nextR_iv h
  exact ⟨rfl, hm⟩
theorem addR_iv {s t : Sch} {nm : ByteArray} {k : Int} (h : addR s nm k = (t, 0)) : t.cols = s.cols ++ [⟨s.next, nm, k⟩] ∧ mayB t = true := by
  unfold addR at h
  split at h
  · simp at h
  split at h
  · simp at h
  split at h
  · simp at h
  split at h
  · simp at h
  split at h
  · simp at h
  obtain ⟨rfl, hm⟩ := nextR_iv h
  exact ⟨rfl, hm⟩
theorem setName_map {β : Type} (f : Col → β) (hf : ∀ (c : Col) (n : ByteArray), f { c with name := n } = f c) (cols : List Col) (k : Nat) (to : ByteArray) : (setName cols k to).map f = cols.map f := by
  apply List.ext_getElem?
  intro i
  rw [List.getElem?_map, List.getElem?_map, setName, List.getElem?_modify]
  cases cols[i]? with
  | none => rfl
  | some c =>
    simp only [Option.map_eq_map, Option.map_some]
    split
    · simp [hf]
    · simp
/-- A renamed column has the same values. -/
theorem to_rename {s t : Sch} {nm to : ByteArray} {rows : Int} {fc : List Col} {vals : List (List Val)} (h : renameR s nm to = (t, 0)) (h0 : (toR s rows fc vals).2 = 0) : toR t rows fc vals = ((toR s rows fc vals).1, 0) := by
  obtain ⟨hc, hm⟩ := renameR_iv h
  obtain ⟨⟨_, hf, ha⟩, he⟩ := toR_ok h0
  have e1 : fromT fc t.cols = fromT fc s.cols := by rw [hc]; exact setName_map _ (fun c n => rfl) _ _ _
  have e2 : t.cols.all (fromOk fc) = true := by
    have := setName_map (fromOk fc) (fun c n => rfl) s.cols (s.cols.findIdx (named nm)) to
    rw [← hc] at this
    rw [List.all_eq_true] at ha ⊢
    intro x hx
    have hx' : fromOk fc x ∈ t.cols.map (fromOk fc) := List.mem_map.2 ⟨x, hx, rfl⟩
    rw [this] at hx'
    obtain ⟨y, hy, hxy⟩ := List.mem_map.1 hx'
    rw [← hxy]; exact ha y hy
  rw [he]
  unfold toR
  rw [if_pos ⟨hm, hf, e2⟩, e1]
/-- The highest Id of a file. -/
def lastIdT (cols : List Col) : Int := cols.foldl (fun m c => max m c.id) 0
theorem foldl_max : ∀ (l : List Col) (m : Int), m ≤ l.foldl (fun m c => max m c.id) m ∧ ∀ c ∈ l, c.id ≤ l.foldl (fun m c => max m c.id) m
  | [], m => ⟨Int.le_refl _, fun c h => by simp at h⟩
  | x :: r, m => by
    obtain ⟨h1, h2⟩ := foldl_max r (max m x.id)
    refine ⟨by simp only [List.foldl_cons]; omega, fun c hc => ?_⟩
    rcases List.mem_cons.1 hc with rfl | hc
    · simp only [List.foldl_cons]; omega
    · exact h2 c hc
theorem idx_no {α : Type} {p : α → Bool} {l : List α} (h : ∀ x ∈ l, p x = false) : idx p l = -1 := by
  unfold idx
  rw [if_neg]
  intro hl
  have := List.findIdx_getElem (w := hl)
  rw [h _ (List.getElem_mem hl)] at this
  cases this
/-- A new column is null. -/
theorem to_add {s t : Sch} {nm : ByteArray} {k rows : Int} {fc : List Col} {vals : List (List Val)} (h : addR s nm k = (t, 0)) (h0 : (toR s rows fc vals).2 = 0) (hn : lastIdT fc < s.next) : toR t rows fc vals = ((toR s rows fc vals).1.map (· ++ [Val.zero]), 0) := by
  obtain ⟨hc, hm⟩ := addR_iv h
  obtain ⟨⟨_, hf, ha⟩, he⟩ := toR_ok h0
  have hi : idx (byId s.next) fc = -1 := idx_no fun o ho => by
    have := (foldl_max fc 0).2 o ho
    simp only [byId, beq_eq_false_iff_ne]
    unfold lastIdT at hn
    omega
  have e2 : t.cols.all (fromOk fc) = true := by
    rw [hc, List.all_append, ha]
    simp [fromOk, hi]
  rw [he]
  unfold toR
  rw [if_pos ⟨hm, hf, e2⟩, hc]
  simp only [List.map_map, Prod.mk.injEq, and_true]
  apply List.map_congr_left
  intro i _
  simp [toRow, fromT, toCell, hi]
end Go.Proofs.YtinpnginjpfbpaaDoor
