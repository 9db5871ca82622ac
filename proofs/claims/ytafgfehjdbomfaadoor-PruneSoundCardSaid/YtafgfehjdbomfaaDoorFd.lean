/-
  A spec's fields: plain facts; finding one.
-/
import Derived.Test.YtafgfehjdbomfaaDoorBase
import Derived.Test.YtafgfehjdbomfaaDoorPrP
namespace Go.Proofs.YtafgfehjdbomfaaDoor
open Go.RowKit

theorem Fut.tr {a b c : World} (h1 : Fut a b) (h2 : Fut b c) : Fut a c := ⟨h1.below.trans (h2.below.mono h1.below.size)⟩
theorem idx_cases {α : Type} (p : α → Bool) (l : List α) : idx p l = -1 ∨ ∃ j : Nat, idx p l = (j : Int) ∧ j < l.length := by
  unfold idx
  split
  · rename_i h; exact .inr ⟨_, rfl, h⟩
  · exact .inl rfl
theorem idx_cases' {α : Type} (p : α → Bool) (l : List α) : (¬ 0 ≤ idx p l ∧ l.any p = false) ∨ (0 ≤ idx p l ∧ l.any p = true) := by
  unfold idx
  split
  · rename_i h
    exact .inr ⟨by omega, List.any_eq_true.2 ⟨l[l.findIdx p], List.getElem_mem h, List.findIdx_getElem (w := h)⟩⟩
  · rename_i h
    refine .inl ⟨by omega, ?_⟩
    rw [List.any_eq_false]
    intro x hx hp
    exact h (List.findIdx_lt_length_of_exists ⟨x, hx, hp⟩)
theorem idx_any {α : Type} (p : α → Bool) (l : List α) : decide (0 ≤ idx p l) = l.any p := by
  rcases idx_cases' p l with ⟨h1, h2⟩ | ⟨h1, h2⟩
  · rw [h2]; simpa using h1
  · rw [h2]; simpa using h1
/-- A spec's field. -/
structure Fld where
  source : Int
  trans : Int
  param : Int
def Fld.cells (f : Fld) : List Value := [.int .i64 f.source, .int .i64 f.trans, .int .i64 f.param]
/-- May a spec be? -/
def paramB (f : Fld) : Bool := if f.trans = 0 then f.param == 0 else if f.trans = 1 ∨ f.trans = 2 then decide (1 ≤ f.param) && decide (f.param ≤ 1024) else false
def sameF (f o : Fld) : Bool := o.source == f.source && o.trans == f.trans
def colId (id : Int) (c : Col) : Bool := c.id == id
def fldB (s : Sch) (fs : List Fld) (k : Nat) (f : Fld) : Bool :=
  decide (0 ≤ idx (colId f.source) s.cols) && (paramB f && (!(f.trans == 2 && (s.cols.getD (s.cols.findIdx (colId f.source)) ⟨0, .empty, 0⟩).kind == 2) && !(fs.take k).any (sameF f)))
def fldsUpto (s : Sch) (fs : List Fld) : Nat → Bool
  | 0 => true
  | k + 1 => fldsUpto s fs k && (match fs[k]? with | some f => fldB s fs k f | none => true)
def specB (id : Int) (fs : List Fld) (s : Sch) : Bool := mayB s && (decide (0 ≤ id) && (decide (id ≤ 2147483647) && (decide (fs.length ≤ 4) && fldsUpto s fs fs.length)))
theorem fldsUpto_iff {s : Sch} {fs : List Fld} : ∀ {k : Nat}, fldsUpto s fs k = true ↔ ∀ i, i < k → ∀ f, fs[i]? = some f → fldB s fs i f = true
  | 0 => by simp [fldsUpto]
  | k + 1 => by
    rw [fldsUpto, Bool.and_eq_true, fldsUpto_iff]
    constructor
    · rintro ⟨h1, h2⟩ i hi n hn
      rcases Nat.lt_or_eq_of_le (Nat.le_of_lt_succ hi) with h | rfl
      · exact h1 i h n hn
      · rw [hn] at h2; exact h2
    · intro h
      refine ⟨fun i hi => h i (by omega), ?_⟩
      cases hk : fs[k]? with
      | none => rfl
      | some n => exact h k (by omega) n hk
theorem fldsUpto_bad {s : Sch} {fs : List Fld} {k : Nat} {f : Fld} (hn : fs[k]? = some f) (h : fldB s fs k f = false) : fldsUpto s fs fs.length = false := by
  cases e : fldsUpto s fs fs.length with
  | false => rfl
  | true =>
    have := fldsUpto_iff.1 e k (List.getElem?_eq_some_iff.1 hn).1 f hn
    rw [h] at this; cases this
theorem fldsUpto_succ {s : Sch} {fs : List Fld} {k : Nat} {f : Fld} (h : fldsUpto s fs k = true) (hn : fs[k]? = some f) (hf : fldB s fs k f = true) : fldsUpto s fs (k + 1) = true := by
  rw [fldsUpto, h, hn]; exact hf
set_option maxHeartbeats 4000000 in
theorem indexFuncFld_any {w0 : World} (f : FuncId) (caps : Array Value) (p : Fld → Bool) (A : Option Addr) (cap : Nat) (l : List Fld) (w : World)
    (hB : l.length ≤ 4611686018427387904) (hat : SlAt w0 w0.heap.size 3 A (l.map Fld.cells)) [hf0 : Fut w0 w]
    (hcall : ∀ args w, (callFunc f args).run Tryd.prog w = .ok (.enter f args) w)
    (hf : ∀ c ∈ l, ∀ w' [Fut w w'], Calls Tryd.prog f (#[.agg #[.int .i64 c.source, .int .i64 c.trans, .int .i64 c.param]] ++ caps) w' fun e w'' => e = .returned (.bool (p c)) ∧ Step w' w'') :
    Calls Tryd.prog 65 #[.slice A l.length cap, .func (.func f) #[] caps] w fun e w' =>
      e = .returned (.int .i64 (idx p l)) ∧ Step w w' := by
  have HF := Lib.hid hf; clear hf
  have hz := hf0.below.size
  go_enter Tryd.func65, Tryd.ntmps65
  go_wp2
  go_loopw [8] (fun i wr => ∃ k : Nat, k ≤ l.length ∧ i = .int .i64 k ∧ k ≤ l.findIdx p ∧ Step w wr) (fun i _ => l.length - (intOf i).toNat)
  case atStart => exact ⟨0, Nat.zero_le _, rfl, Nat.zero_le _, Step.of⟩
  case round =>
    obtain ⟨k, hk, rfl, hfi, hst⟩ := hrel
    obtain ⟨wo, rfl⟩ : ∃ x : World, x = wr := ⟨_, rfl⟩
    have hzo := hst.size
    by_cases hlt : k < l.length
    · obtain ⟨b, off, rfl, hb, hc⟩ := hat.elem (w' := wo) inferInstance (k := k) (by simpa using hlt)
      have hck := hc k l[k].cells (by simp [hlt])
      obtain ⟨h0, h1, h2⟩ := At.l3 hck
      have hlb : b < wo.heap.size := by omega
      have HC := HF.out l[k] (List.getElem_mem hlt) wo
      have HC' := Lib.hid HC; clear HC hc hck
      cases hp : p l[k] with
      | true =>
        have Hp := Lib.hid hp; clear hp
        go_wp2_with (refine HC'.out.mono ?_; rintro e w' ⟨rfl, hs⟩; rw [Hp.out])
        go_ret
        have e : l.findIdx p = k := fi_hit p l k hlt hfi Hp.out
        exact ⟨ret_int (by simp [idx, e, hlt]), Step.of⟩
      | false =>
        have Hp := Lib.hid hp; clear hp
        go_wp2_with (refine HC'.out.mono ?_; rintro e w' ⟨rfl, hs⟩; rw [Hp.out])
        go_roundw
        case rel => exact ⟨k + 1, by omega, by go_num, fi_miss p l k hlt hfi Hp.out, Step.of⟩
        case measure => simp [intOf]; omega
    · go_wp2_with fail
      go_ret
      exact ⟨ret_int (by rw [idx, if_neg (by omega)]), Step.of⟩
theorem containsFuncFld_any {w0 : World} (f : FuncId) (caps : Array Value) (p : Fld → Bool) (A : Option Addr) (cap : Nat) (l : List Fld) (w : World)
    (hB : l.length ≤ 4611686018427387904) (hat : SlAt w0 w0.heap.size 3 A (l.map Fld.cells)) [hf0 : Fut w0 w]
    (hcall : ∀ args w, (callFunc f args).run Tryd.prog w = .ok (.enter f args) w)
    (hf : ∀ c ∈ l, ∀ w' [Fut w w'], Calls Tryd.prog f (#[.agg #[.int .i64 c.source, .int .i64 c.trans, .int .i64 c.param]] ++ caps) w' fun e w'' => e = .returned (.bool (p c)) ∧ Step w' w'') :
    Calls Tryd.prog 96 #[.slice A l.length cap, .func (.func f) #[] caps] w fun e w' =>
      e = .returned (.bool (l.any p)) ∧ Step w w' := by
  have C := hide (indexFuncFld_any f caps p A cap l w hB hat hcall hf)
  have HA := hide (idx_any p l)
  clear hf hcall hat
  rw [← HA.out]
  clear HA
  obtain ⟨r, hr⟩ : ∃ r, idx p l = r := ⟨_, rfl⟩
  rw [hr] at C
  rw [hr]
  clear hr
  go_enter Tryd.func96, Tryd.ntmps96
  go_wp2_with (refine C.out.mono ?_; rintro e w' ⟨rfl, hs⟩)
  go_ret
  exact ⟨rfl, Step.of⟩
end Go.Proofs.YtafgfehjdbomfaaDoor
