/-
  Texts put together: Hc, Hm, Vc, Gf, Ht, Dg.
-/
import Derived.Test.YtnphokhehacfnaaGreatDoorCz01
import Derived.Test.YtnphokhehacfnaaGreatDoorCz02
import Derived.Test.YtnphokhehacfnaaGreatDoorCz05
import Derived.Test.YtnphokhehacfnaaGreatDoorCz12
import Derived.Test.YtnphokhehacfnaaGreatDoorCz15
import Derived.Test.YtnphokhehacfnaaGreatDoorCz16
import Derived.Test.YtnphokhehacfnaaGreatDoorCz17
namespace Go.Proofs.YtnphokhehacfnaaGreatDoor
open Go.RowKit

def cmpL (a b : List Val) : Int := if lessL a b then -1 else if lessL b a then 1 else 0
end Go.Proofs.YtnphokhehacfnaaGreatDoor

namespace Go.Proofs.YtnphokhehacfnaaGreatDoor

variable {α : Type} {lt : α → α → Bool}
/-- i of a and k of b have been merged into out. -/
structure Mrg (lt : α → α → Bool) (a b out : List α) (i k : Nat) : Prop where
  asc : Asc lt out
  sep : ∀ x ∈ out, ∀ y ∈ a.drop i ++ b.drop k, lt y x = false
  perm : out.Perm (a.take i ++ b.take k)
theorem mem_dropS {l : List α} {i : Nat} {x : α} (h : l[i]? = some x) : x ∈ l.drop i := by
  obtain ⟨hi, e⟩ := List.getElem?_eq_some_iff.1 h
  rw [List.drop_eq_getElem_cons hi, e]
  simp
theorem drop_memS {l : List α} {i : Nat} {y : α} (h : y ∈ l.drop (i + 1)) : y ∈ l.drop i := by
  rcases Nat.lt_or_ge i l.length with hi | hi
  · rw [List.drop_eq_getElem_cons hi]
    exact List.mem_cons_of_mem _ h
  · rw [List.drop_eq_nil_of_le (by omega)] at h
    simp at h
theorem Mrg.left (hw : Weak lt) {a b out : List α} {i k : Nat} {x : α} (h : Mrg lt a b out i k) (ha : Asc lt a) (hb : Asc lt b) (hx : a[i]? = some x) (hle : ∀ y, b[k]? = some y → lt y x = false) : Mrg lt a b (out ++ [x]) (i + 1) k := by
  have hxa := asc_drop ha hx hw
  have hxb : ∀ z ∈ b.drop k, lt z x = false := by
    intro z hz
    rcases Nat.lt_or_ge k b.length with hk | hk
    · have hy : b[k]? = some b[k] := List.getElem?_eq_getElem hk
      exact hw.tr x b[k] z (hle _ hy) (asc_drop hb hy hw z hz)
    · rw [List.drop_eq_nil_of_le hk] at hz
      simp at hz
  refine ⟨asc_snoc h.asc fun y hy => h.sep y hy x (List.mem_append.2 (.inl (mem_dropS hx))), fun z hz y hy => ?_, ?_⟩
  · rcases List.mem_append.1 hz with hz | hz
    · refine h.sep z hz y ?_
      rcases List.mem_append.1 hy with q | q
      · exact List.mem_append.2 (.inl (drop_memS q))
      · exact List.mem_append.2 (.inr q)
    · simp at hz
      subst hz
      rcases List.mem_append.1 hy with q | q
      · exact hxa y (drop_memS q)
      · exact hxb y q
  · rw [List.take_add_one, hx]
    refine (h.perm.append_right [x]).trans ?_
    simp only [Option.toList_some, List.append_assoc]
    exact List.Perm.append_left _ List.perm_append_comm
theorem Mrg.right (hw : Weak lt) {a b out : List α} {i k : Nat} {y : α} (h : Mrg lt a b out i k) (ha : Asc lt a) (hb : Asc lt b) (hy : b[k]? = some y) (hle : ∀ x, a[i]? = some x → lt x y = false) : Mrg lt a b (out ++ [y]) i (k + 1) := by
  have hyb := asc_drop hb hy hw
  have hya : ∀ z ∈ a.drop i, lt z y = false := by
    intro z hz
    rcases Nat.lt_or_ge i a.length with hi | hi
    · have hx : a[i]? = some a[i] := List.getElem?_eq_getElem hi
      exact hw.tr y a[i] z (hle _ hx) (asc_drop ha hx hw z hz)
    · rw [List.drop_eq_nil_of_le hi] at hz
      simp at hz
  refine ⟨asc_snoc h.asc fun x hx => h.sep x hx y (List.mem_append.2 (.inr (mem_dropS hy))), fun z hz x hx => ?_, ?_⟩
  · rcases List.mem_append.1 hz with hz | hz
    · refine h.sep z hz x ?_
      rcases List.mem_append.1 hx with q | q
      · exact List.mem_append.2 (.inl q)
      · exact List.mem_append.2 (.inr (drop_memS q))
    · simp at hz
      subst hz
      rcases List.mem_append.1 hx with q | q
      · exact hya x q
      · exact hyb x (drop_memS q)
  · rw [List.take_add_one, hy]
    refine (h.perm.append_right [y]).trans ?_
    simp only [Option.toList_some, List.append_assoc]
    exact List.Perm.refl _
end Go.Proofs.YtnphokhehacfnaaGreatDoor

namespace Go.Proofs.YtnphokhehacfnaaGreatDoor
open Go.RowKit

end Go.Proofs.YtnphokhehacfnaaGreatDoor

namespace Go.Proofs.YtnphokhehacfnaaGreatDoor
open Go.RowKit

/-- Blocks of W other than g stand as they were. -/
structure SameB (W w' : World) (g : Nat) : Prop where
  at_ : ∀ b o, ¬ b = g → b < W.heap.size → w'.cell? ⟨b, o, none⟩ = W.cell? ⟨b, o, none⟩

end Go.Proofs.YtnphokhehacfnaaGreatDoor

namespace Go.Proofs.YtnphokhehacfnaaGreatDoor
open Go.RowKit

theorem SlAt.suf {w : World} {B size b off : Nat} {l l' : List (List Value)} (h : SlAt w B size (some ⟨b, off, none⟩) (l ++ l')) : SlAt w B size (some ⟨b, off + l.length * size, none⟩) l' := by
  intro hl
  obtain ⟨b', off', e, hlt, hc⟩ := h (by simp; omega)
  cases e
  refine ⟨b, off + l.length * size, rfl, hlt, fun i cs hi => ?_⟩
  have q := hc (l.length + i) cs (by rw [List.getElem?_append_right (by omega)]; simpa using hi)
  rw [Nat.add_mul, ← Nat.add_assoc] at q
  exact q
theorem RowsIn.take {w : World} {rs : List RowA} {A : Option Addr} {cap : Nat} (h : RowsIn w rs A cap) (n : Nat) : RowsIn w (rs.take n) A cap := by
  have hl : (rs.take n).length ≤ rs.length := by rw [List.length_take]; omega
  refine ⟨Nat.le_trans hl h.hcap, Nat.le_trans hl h.hcapm, h.hcap2, ?_, fun r hr => h.rows r (List.mem_of_mem_take hr)⟩
  have q := h.at_
  rw [← List.take_append_drop n rs, List.map_append] at q
  exact q.pre
theorem RowsIn.drop {w : World} {rs : List RowA} {b off : Nat} {cap : Nat} (h : RowsIn w rs (some ⟨b, off, none⟩) cap) (n : Nat) (hn : n ≤ rs.length) : RowsIn w (rs.drop n) (some ⟨b, off + n, none⟩) (cap - n) := by
  have hl : (rs.drop n).length = rs.length - n := List.length_drop
  have h1 := h.hcap; have h2 := h.hcapm; have h3 := h.hcap2
  refine ⟨by omega, by omega, by omega, ?_, fun r hr => h.rows r (List.mem_of_mem_drop hr)⟩
  have q := h.at_
  rw [← List.take_append_drop n rs, List.map_append] at q
  have q2 := q.suf
  rw [List.length_map, List.length_take, Nat.min_eq_left hn, Nat.mul_one] at q2
  exact q2
def SortPost (rs : List RowA) (w : World) (e : Ending) (w' : World) : Prop := ∃ (A' : Option Addr) (c' : Nat) (os : List RowA), e = .returned (.slice A' rs.length c') ∧ os.length = rs.length ∧ Asc lessL (os.map RowA.vs) ∧ (os.map RowA.vs).Perm (rs.map fun r => cleanL r.vs) ∧ OwnR w' w.heap.size A' rs.length c' os ∧ Step w w'
end Go.Proofs.YtnphokhehacfnaaGreatDoor

namespace Go.Proofs.YtnphokhehacfnaaGreatDoor
open Go.RowKit

theorem eqV_iff {x y : Val} : eqV x y = true ↔ x = y := by
  obtain ⟨a, b, c, d⟩ := x
  obtain ⟨a', b', c', d'⟩ := y
  simp only [eqV, Bool.and_eq_true, beq_iff_eq, Val.mk.injEq]
  constructor
  · rintro ⟨⟨⟨h1, h2⟩, h3⟩, h4⟩
    refine ⟨h1, h2, h3, ?_⟩
    rw [ByteArray.toList_eq, ByteArray.toList_eq] at h4
    apply ByteArray.ext
    exact Array.toList_inj.1 h4
  · rintro ⟨h1, h2, h3, h4⟩
    exact ⟨⟨⟨h1, h2⟩, h3⟩, by rw [h4]⟩
theorem eqVs_iff : ∀ {a b : List Val}, eqVs a b = true ↔ a = b
  | [], [] => by simp [eqVs]
  | [], y :: ys => by simp [eqVs]
  | x :: xs, [] => by simp [eqVs]
  | x :: xs, y :: ys => by
    have ih := eqVs_iff (a := xs) (b := ys)
    simp only [eqVs, Bool.and_eq_true, beq_iff_eq] at ih ⊢
    simp only [List.length_cons, List.zip_cons_cons, List.all_cons, Bool.and_eq_true, eqV_iff, List.cons.injEq]
    constructor
    · rintro ⟨h1, h2, h3⟩
      exact ⟨h2, ih.1 ⟨by omega, h3⟩⟩
    · rintro ⟨h1, h2⟩
      have := ih.2 h2
      exact ⟨by omega, h1, this.2⟩
theorem eqC_iff {x y : Col} : eqC x y = true ↔ x = y := by
  obtain ⟨a, b, c⟩ := x
  obtain ⟨a', b', c'⟩ := y
  simp only [eqC, Bool.and_eq_true, beq_iff_eq, Col.mk.injEq]
  constructor
  · rintro ⟨⟨h1, h2⟩, h3⟩
    refine ⟨h1, ?_, h3⟩
    rw [ByteArray.toList_eq, ByteArray.toList_eq] at h2
    apply ByteArray.ext
    exact Array.toList_inj.1 h2
  · rintro ⟨h1, h2, h3⟩
    exact ⟨⟨h1, by rw [h2]⟩, h3⟩
theorem eqF_iff {x y : Fld} : eqF x y = true ↔ x = y := by
  obtain ⟨a, b, c⟩ := x
  obtain ⟨a', b', c'⟩ := y
  simp only [eqF, Bool.and_eq_true, beq_iff_eq, Fld.mk.injEq, and_assoc]
theorem eqCs_iff : ∀ {a b : List Col}, eqCs a b = true ↔ a = b
  | [], [] => by simp [eqCs]
  | [], y :: ys => by simp [eqCs]
  | x :: xs, [] => by simp [eqCs]
  | x :: xs, y :: ys => by
    have ih := eqCs_iff (a := xs) (b := ys)
    simp only [eqCs, Bool.and_eq_true, beq_iff_eq] at ih ⊢
    simp only [List.length_cons, List.zip_cons_cons, List.all_cons, Bool.and_eq_true, eqC_iff, List.cons.injEq]
    constructor
    · rintro ⟨h1, h2, h3⟩
      exact ⟨h2, ih.1 ⟨by omega, h3⟩⟩
    · rintro ⟨h1, h2⟩
      have := ih.2 h2
      exact ⟨by omega, h1, this.2⟩
theorem eqFs_iff : ∀ {a b : List Fld}, eqFs a b = true ↔ a = b
  | [], [] => by simp [eqFs]
  | [], y :: ys => by simp [eqFs]
  | x :: xs, [] => by simp [eqFs]
  | x :: xs, y :: ys => by
    have ih := eqFs_iff (a := xs) (b := ys)
    simp only [eqFs, Bool.and_eq_true, beq_iff_eq] at ih ⊢
    simp only [List.length_cons, List.zip_cons_cons, List.all_cons, Bool.and_eq_true, eqF_iff, List.cons.injEq]
    constructor
    · rintro ⟨h1, h2, h3⟩
      exact ⟨h2, ih.1 ⟨by omega, h3⟩⟩
    · rintro ⟨h1, h2⟩
      have := ih.2 h2
      exact ⟨by omega, h1, this.2⟩
def eqRs (p : RowA → RowA → Bool) (a b : List RowA) : Bool := a.length == b.length && (a.zip b).all fun q => p q.1 q.2
def rowEq (x y : RowA) : Bool := eqVs x.vs y.vs
theorem eqRs_iff : ∀ {a b : List RowA}, eqRs rowEq a b = true ↔ a.map RowA.vs = b.map RowA.vs
  | [], [] => by simp [eqRs]
  | [], y :: ys => by simp [eqRs]
  | x :: xs, [] => by simp [eqRs]
  | x :: xs, y :: ys => by
    have ih := eqRs_iff (a := xs) (b := ys)
    simp only [eqRs, Bool.and_eq_true, beq_iff_eq] at ih ⊢
    simp only [List.length_cons, List.zip_cons_cons, List.all_cons, Bool.and_eq_true, rowEq, eqVs_iff, List.map_cons, List.cons.injEq]
    constructor
    · rintro ⟨h1, h2, h3⟩
      exact ⟨h2, ih.1 ⟨by omega, h3⟩⟩
    · rintro ⟨h1, h2⟩
      have := ih.2 h2
      exact ⟨by omega, h1, this.2⟩
set_option maxRecDepth 100000 in
set_option maxHeartbeats 4000000 in
theorem eqFuncRow_any {w1 w2 : World} (f : FuncId) (p : RowA → RowA → Bool) (a b : List RowA) (A1 A2 : Option Addr) (c1 c2 : Nat) (w : World) (h1 : SlAt w1 w1.heap.size 1 A1 (a.map RowA.cells)) (h2 : SlAt w2 w2.heap.size 1 A2 (b.map RowA.cells)) [f1 : Fut w1 w] [f2 : Fut w2 w] (hl : a.length ≤ 4611686018427387904)
    (hcall : ∀ args w, (callFunc f args).run Tryz.prog w = .ok (.enter f args) w)
    (hf : ∀ x ∈ a, ∀ y ∈ b, ∀ (w' : World) [Fut w w'], Calls Tryz.prog f #[.agg #[.slice x.A x.vs.length x.cap], .agg #[.slice y.A y.vs.length y.cap]] w' fun e w'' => e = .returned (.bool (p x y)) ∧ Step w' w'') :
    Calls Tryz.prog 62 #[.slice A1 a.length c1, .slice A2 b.length c2, .func (.func f) #[] #[]] w fun e w' => e = .returned (.bool (eqRs p a b)) ∧ Step w w' := by
  have HF := Lib.hid hf; clear hf
  have z1 := f1.below.size; have z2 := f2.below.size
  obtain ⟨T, hT⟩ : ∃ T, eqRs p a b = T := ⟨_, rfl⟩
  have HT := hide hT
  rw [hT]
  clear hT
  by_cases hlen : a.length = b.length
  · have HL := hide hlen
    rw [← hlen]
    have HT : Hid (((a.zip b).all fun q => p q.1 q.2) = T) := by show _ = _; rw [← HT.out, eqRs, hlen]; simp
    clear hlen
    go_enter Tryz.func62, Tryz.ntmps62
    go_wp2_with fail
    go_loopw [7, 8, 9, 17] (fun _ _ _ i wr => ∃ k : Nat, k ≤ a.length ∧ i = .int .i64 k ∧ Hid ((((a.zip b).drop k).all fun q => p q.1 q.2) = T) ∧ Step w wr) (fun _ _ _ i _ => a.length - (intOf i).toNat)
    case atStart => exact ⟨0, Nat.zero_le _, rfl, HT.out, Step.of⟩
    case round =>
      clear HT
      obtain ⟨k, hk, rfl, HT, hst⟩ := hrel
      obtain ⟨wo, rfl⟩ : ∃ x : World, x = wr := ⟨_, rfl⟩
      have hzo := hst.size
      by_cases hlt : k < a.length
      · obtain ⟨b1, o1, hA1, hb1, hc1⟩ := h1.elem (w' := wo) inferInstance (k := k) (by simpa using hlt)
        obtain ⟨x, hx⟩ : ∃ x, a[k]? = some x := ⟨_, List.getElem?_eq_getElem hlt⟩
        obtain ⟨y, hy⟩ : ∃ y, b[k]? = some y := ⟨_, List.getElem?_eq_getElem (by have := HL.out; omega)⟩
        have p0 := At.l1 (hc1 k x.cells (by simp [hx]))
        simp only [Nat.mul_one] at p0
        have l1 : b1 < wo.heap.size := by omega
        have hkl : (k : Int) < (a.length : Int) := by omega
        have hk0 : (0 : Int) ≤ (k : Int) := by omega
        have HT2 : Hid ((p x y && ((a.zip b).drop (k + 1)).all fun q => p q.1 q.2) = T) := by
          show _ = _
          have hz : (a.zip b)[k]? = some (x, y) := by rw [List.getElem?_zip_eq_some]; exact ⟨hx, hy⟩
          obtain ⟨hkz, hke⟩ := List.getElem?_eq_some_iff.1 hz
          rw [← HT.out, List.drop_eq_getElem_cons hkz, List.all_cons, hke]
        have HC := fun (w' : World) (hq : Fut wo w') => haveI : Fut w w' := Fut.tr ⟨hst.below⟩ hq; HF.out x (List.mem_of_getElem? hx) y (List.mem_of_getElem? hy) w'
        obtain ⟨W2, hW2⟩ : ∃ x_ : World, x_ = wo.alloc (.cells #[.slice x.A x.vs.length x.cap] 67) := ⟨_, rfl⟩
        have SW2 : Step wo W2 := by rw [hW2]; exact Step.of
        have HX2 : Hid (Blk W2 wo.heap.size 67 [.slice x.A x.vs.length x.cap]) := by rw [hW2]; exact Blk.new wo _ 67
        have hz2 : W2.heap.size = wo.heap.size + 1 := by rw [hW2]; simp
        have HZ2 := hide hz2
        obtain ⟨b2, o2, hA2, hb2, hc2⟩ := h2.elem (w' := W2) inferInstance (k := k) (by have := HL.out; simp; omega)
        have q0 := At.l1 (hc2 k y.cells (by simp [hy]))
        simp only [Nat.mul_one] at q0
        have l2 : b2 < W2.heap.size := by omega
        have hkl2 : (k : Int) < (b.length : Int) := by have := HL.out; omega
        rw [← HL.out] at hkl2
        obtain ⟨W3, hW3⟩ : ∃ x_ : World, x_ = W2.alloc (.cells #[.slice y.A y.vs.length y.cap] 67) := ⟨_, rfl⟩
        have SW3 : Step W2 W3 := by rw [hW3]; exact Step.of
        have HX3 : Hid (Blk W3 wo.heap.size 67 [.slice x.A x.vs.length x.cap]) := by rw [hW3]; exact HX2.out.alloc _
        have HY3 : Hid (Blk W3 (wo.heap.size + 1) 67 [.slice y.A y.vs.length y.cap]) := by rw [hW3]; exact Blk.new_at HZ2.out _ 67
        have HW2 := hide hW2; have HW3 := hide hW3
        rw [hA1, hA2]
        clear hc1 hc2 hx hy hA1 hA2 hz2 hW2 hW3
        go_upto_region 6 with fail
        rw [HW2.out.symm]
        go_upto_region 7 with fail
        rw [HW3.out.symm]
        rw [show W2.heap.size = wo.heap.size + 1 from HZ2.out]
        have g0 := At.z1 HX3.out.at0
        have lg := HX3.out.lt
        have g1 := At.z1 HY3.out.at0
        have lg1 := HY3.out.lt
        cases hp : p x y with
        | true =>
          have HT3 : Hid ((((a.zip b).drop (k + 1)).all fun q => p q.1 q.2) = T) := by show _ = _; rw [← HT2.out, hp]; simp
          rw [hp] at HC
          have HC := hide HC
          clear hp
          go_wp2_with (refine (HC.out _ inferInstance).mono ?_; rintro e w5 ⟨rfl, hs5⟩)
          go_roundw
          case rel => exact ⟨k + 1, by omega, by go_num, HT3.out, Step.of⟩
          case measure => simp [intOf]; omega
        | false =>
          obtain rfl : T = false := by rw [← HT2.out, hp]; rfl
          rw [hp] at HC
          have HC := hide HC
          clear hp
          go_wp2_with (refine (HC.out _ inferInstance).mono ?_; rintro e w5 ⟨rfl, hs5⟩)
          go_ret
          exact ⟨rfl, Step.of⟩
      · obtain rfl : k = a.length := by omega
        obtain rfl : T = true := by rw [← HT.out, List.drop_of_length_le (by rw [List.length_zip]; omega)]; rfl
        go_wp2_with fail
        go_ret
        exact ⟨rfl, Step.of⟩
  · obtain rfl : T = false := by rw [← HT.out, eqRs, beq_eq_false_iff_ne.2 hlen]; rfl
    have hb : ((a.length : Int) != (b.length : Int)) = true := by simp; omega
    go_enter Tryz.func62, Tryz.ntmps62
    go_wp2_with fail
    go_ret
    exact ⟨rfl, Step.of⟩
set_option maxHeartbeats 4000000 in
theorem same1_any {w1 w2 : World} (x y : RowA) (w : World) (h1 : SlAt w1 w1.heap.size 4 x.A (x.vs.map Val.cells)) (h2 : SlAt w2 w2.heap.size 4 y.A (y.vs.map Val.cells)) [f1 : Fut w1 w] [f2 : Fut w2 w] (hl : x.vs.length ≤ 4611686018427387904) :
    Calls Tryz.prog 64 #[.agg #[.slice x.A x.vs.length x.cap], .agg #[.slice y.A y.vs.length y.cap]] w fun e w' => e = .returned (.bool (rowEq x y)) ∧ Step w w' := by
  have EQ := hide (fun w' [Fut w1 w'] [Fut w2 w'] => equal_any x.vs y.vs x.A y.A x.cap y.cap w' h1 h2 hl)
  unfold rowEq
  obtain ⟨T, hT⟩ : ∃ T, eqVs x.vs y.vs = T := ⟨_, rfl⟩
  rw [hT] at EQ
  rw [hT]
  clear hT
  obtain ⟨W, hW⟩ : ∃ W, W = (w.alloc (.cells #[.slice x.A x.vs.length x.cap] 67)).alloc (.cells #[.slice y.A y.vs.length y.cap] 67) := ⟨_, rfl⟩
  have SW : Step w W := by rw [hW]; exact Step.of
  have HX : Hid (Blk W w.heap.size 67 [.slice x.A x.vs.length x.cap]) := by rw [hW]; exact (Blk.new w _ 67).alloc _
  have HY : Hid (Blk W (w.heap.size + 1) 67 [.slice y.A y.vs.length y.cap]) := by rw [hW]; exact Blk.new_at (by simp) _ 67
  have x0 := At.z1 HX.out.at0; have lx := HX.out.lt
  have y0 := At.z1 HY.out.at0; have ly := HY.out.lt
  go_enter Tryz.func64, Tryz.ntmps64
  go_upto_region 1 with fail
  rw [← hW]
  clear hW
  go_wp2_with (go_at_call 65; (with_reducible refine (EQ.out _).mono ?_); rintro e w3 ⟨rfl, hs3⟩)
  go_ret
  exact ⟨rfl, Step.of⟩

/-- One table, whatever its rows' order. -/
structure SameT (a b : Tb) : Prop where
  may1 : tabB a = true
  may2 : tabB b = true
  id : a.s.id = b.s.id
  next : a.s.next = b.s.next
  cols : a.s.cols = b.s.cols
  sid : a.sid = b.sid
  fs : a.fs = b.fs
  rows : a.rows.Perm b.rows
def SaysB (p : Prop) (e : Ending) : Prop := ∃ b : Bool, e = .returned (.bool b) ∧ (b = true ↔ p)
theorem sameV_iff {x y : Val} : sameV x y = true ↔ x = y := eqV_iff
theorem whole_clean {k : Int} {v : Val} (h : wholeB k v = true) : clean v = v := by
  unfold wholeB at h
  rw [Bool.and_eq_true] at h
  exact (sameV_iff.1 h.1).symm
theorem rowW_pure {cols : List Col} {vs : List Val} (h : rowW cols vs = true) : Pure vs := by
  unfold rowW at h
  rw [Bool.and_eq_true, beq_iff_eq] at h
  have h2 := wholeUpto_iff.1 h.2
  unfold Pure
  apply List.ext_getElem?
  intro i
  rw [List.getElem?_map]
  cases hv : vs[i]? with
  | none => rfl
  | some v =>
    have hi := (List.getElem?_eq_some_iff.1 hv).1
    rw [Option.map_some, whole_clean (h2 i (by omega) cols[i] v (List.getElem?_eq_getElem (by omega)) hv)]
theorem may_pure {t : Tb} (h : tabB t = true) : ∀ vs ∈ t.rows, Pure vs := fun vs hv => rowW_pure (List.all_eq_true.1 (tabB_iff.1 h).2.2.2 vs hv)
theorem sorted_same {a b : Tb} (ha : tabB a = true) (hb : tabB b = true) {o1 o2 : List (List Val)} (h1 : Asc lessL o1) (p1 : o1.Perm (a.rows.map cleanL)) (h2 : Asc lessL o2) (p2 : o2.Perm (b.rows.map cleanL)) : o1 = o2 ↔ a.rows.Perm b.rows := by
  have ea : a.rows.map cleanL = a.rows := (List.map_congr_left fun vs hv => (may_pure ha vs hv : cleanL vs = id vs)).trans (List.map_id _)
  have eb : b.rows.map cleanL = b.rows := (List.map_congr_left fun vs hv => (may_pure hb vs hv : cleanL vs = id vs)).trans (List.map_id _)
  rw [ea] at p1
  rw [eb] at p2
  constructor
  · rintro rfl
    exact p1.symm.trans p2
  · intro h
    exact sorted_one h1 h2 (p1.trans (h.trans p2.symm)) fun x hx => may_pure ha x (p1.mem_iff.1 hx)
set_option maxRecDepth 100000 in
set_option maxHeartbeats 16000000 in
theorem msame_any {w1 w2 : World} (a b : TbA) (w : World) (h1 : TbIn w1 a) (h2 : TbIn w2 b) [f1 : Fut w1 w] [f2 : Fut w2 w] :
    Calls Tryz.prog 21 #[.agg #[.int .i64 a.s.id, .slice a.As a.s.cols.length a.cs, .int .i64 a.s.next, .int .i64 a.sid, .slice a.Af a.fs.length a.cf, .slice a.Ar a.rs.length a.cr], .agg #[.int .i64 b.s.id, .slice b.As b.s.cols.length b.cs, .int .i64 b.s.next, .int .i64 b.sid, .slice b.Af b.fs.length b.cf, .slice b.Ar b.rs.length b.cr]] w fun e w' => SaysB (SameT a.tb b.tb) e ∧ Step w w' := by
  have MA := fun (w' : World) [hq : Fut w w'] => haveI := Fut.tr f1 hq; haveI := Fut.tr f2 hq; mmay_any a w' h1
  have MB := fun (w' : World) [hq : Fut w w'] => haveI := Fut.tr f1 hq; haveI := Fut.tr f2 hq; mmay_any b w' h2
  have EC := fun (w' : World) [hq : Fut w w'] => haveI := Fut.tr f1 hq; haveI := Fut.tr f2 hq; equalC_any a.s.cols b.s.cols a.As b.As a.cs b.cs w' h1.sch.at_ h2.sch.at_ (by have := h1.sch.len; omega)
  have EFF := fun (w' : World) [hq : Fut w w'] => haveI := Fut.tr f1 hq; haveI := Fut.tr f2 hq; equalF_any a.fs b.fs a.Af b.Af a.cf b.cf w' h1.flds.at_ h2.flds.at_ (by have := h1.flds.len; omega)
  have SA := hide (fun (w' : World) [hq : Fut w w'] => haveI := Fut.tr f1 hq; haveI := Fut.tr f2 hq; psort_any a.rs a.Ar a.cr w' h1.rows)
  have SB := hide (fun (w' : World) [hq : Fut w w'] => haveI := Fut.tr f1 hq; haveI := Fut.tr f2 hq; psort_any b.rs b.Ar b.cr w' h2.rows)
  have hal := h1.rows.hcapm
  have EF : Hid (∀ {wa wb : World} {Ba Bb : Nat} {A7 A8 : Option Addr} {c7 c8 : Nat} {o7 o8 : List RowA}, OwnR wa Ba A7 a.rs.length c7 o7 → o7.length = a.rs.length → OwnR wb Bb A8 b.rs.length c8 o8 → o8.length = b.rs.length → (∀ x ∈ o7, x.vs.length ≤ 4611686018427387904) → ∀ (w' : World) [Fut wa w'] [Fut wb w'], Calls Tryz.prog 62 #[.slice A7 a.rs.length c7, .slice A8 b.rs.length c8, .func (.func 64) #[] #[]] w' fun e w'' => e = .returned (.bool (eqRs rowEq o7 o8)) ∧ Step w' w'') := by
    intro wa wb Ba Bb A7 A8 c7 c8 o7 o8 g1 l1 g2 l2 hv w' fa fb
    have := eqFuncRow_any (w1 := wa) (w2 := wb) 64 rowEq o7 o8 A7 A8 c7 c8 w' (g1.out.sl (rows_fit _).len) (g2.out.sl (rows_fit _).len) (by omega) (fun args w => by kernel_rfl) (fun x hx y hy w'' fc => by
      haveI := Fut.tr fa fc
      haveI := Fut.tr fb fc
      have k1 := g1.rows x hx
      have k2 := g2.rows y hy
      exact same1_any (w1 := wa) (w2 := wb) x y w'' (k1.sl (vals_fit _).len) (k2.sl (vals_fit _).len) (hv x hx))
    rw [l1, l2] at this
    exact this
  have VL : Hid (∀ {o7 : List RowA}, (o7.map RowA.vs).Perm (a.rs.map fun r => cleanL r.vs) → ∀ x ∈ o7, x.vs.length ≤ 4611686018427387904) := by
    intro o7 hp x hx
    obtain ⟨r, hr, he⟩ := List.mem_map.1 (hp.mem_iff.1 (List.mem_map.2 ⟨x, hx, rfl⟩))
    have h5 := (h1.rows.rows r hr).hcapm
    rw [← he]
    simp only [cleanL, List.length_map]
    omega
  obtain ⟨W, hW⟩ : ∃ W, W = (w.alloc (.cells #[.int .i64 a.s.id, .slice a.As a.s.cols.length a.cs, .int .i64 a.s.next, .int .i64 a.sid, .slice a.Af a.fs.length a.cf, .slice a.Ar a.rs.length a.cr] 30)).alloc (.cells #[.int .i64 b.s.id, .slice b.As b.s.cols.length b.cs, .int .i64 b.s.next, .int .i64 b.sid, .slice b.Af b.fs.length b.cf, .slice b.Ar b.rs.length b.cr] 30) := ⟨_, rfl⟩
  have SW : Step w W := by rw [hW]; exact Step.of
  have HA : Hid (Blk W w.heap.size 30 [.int .i64 a.s.id, .slice a.As a.s.cols.length a.cs, .int .i64 a.s.next, .int .i64 a.sid, .slice a.Af a.fs.length a.cf, .slice a.Ar a.rs.length a.cr]) := by rw [hW]; exact (Blk.new w _ 30).alloc _
  have HB : Hid (Blk W (w.heap.size + 1) 30 [.int .i64 b.s.id, .slice b.As b.s.cols.length b.cs, .int .i64 b.s.next, .int .i64 b.sid, .slice b.Af b.fs.length b.cf, .slice b.Ar b.rs.length b.cr]) := by rw [hW]; exact Blk.new_at (by simp) _ 30
  have HW := hide hW
  clear hW
  cases m1 : tabB a.tb with
  | false =>
    rw [m1] at MA
    have NP : Hid (¬ SameT a.tb b.tb) := fun h => by have := h.may1; rw [m1] at this; cases this
    have MA := hide MA
    clear m1 MB EC EFF
    go_enter Tryz.func21, Tryz.ntmps21
    go_upto_region 1 with fail
    rw [← HW.out]
    obtain ⟨p0, p1, p2, p3, p4, p5⟩ := At.z6 (HA.out.fut (w' := W)).at0
    have lp := (HA.out.fut (w' := W)).lt
    obtain ⟨q0, q1, q2, q3, q4, q5⟩ := At.z6 (HB.out.fut (w' := W)).at0
    have lq := (HB.out.fut (w' := W)).lt
    go_wp2_with (first | (go_at_call 19; first | (with_reducible refine (MA.out _).mono ?_; rintro e w3 ⟨rfl, hs3⟩; clear p0 p1 p2 p3 p4 p5 lp q0 q1 q2 q3 q4 q5 lq; obtain ⟨p0, p1, p2, p3, p4, p5⟩ := At.z6 (HA.out.fut (w' := w3)).at0; have lp := (HA.out.fut (w' := w3)).lt; obtain ⟨q0, q1, q2, q3, q4, q5⟩ := At.z6 (HB.out.fut (w' := w3)).at0; have lq := (HB.out.fut (w' := w3)).lt) | (with_reducible refine (MB.out _).mono ?_; rintro e w4 ⟨rfl, hs4⟩; clear p0 p1 p2 p3 p4 p5 lp q0 q1 q2 q3 q4 q5 lq; obtain ⟨p0, p1, p2, p3, p4, p5⟩ := At.z6 (HA.out.fut (w' := w4)).at0; have lp := (HA.out.fut (w' := w4)).lt; obtain ⟨q0, q1, q2, q3, q4, q5⟩ := At.z6 (HB.out.fut (w' := w4)).at0; have lq := (HB.out.fut (w' := w4)).lt)) | (go_at_call 60; (with_reducible refine (EC.out _).mono ?_); rintro e w5 ⟨rfl, hs5⟩; clear p0 p1 p2 p3 p4 p5 lp q0 q1 q2 q3 q4 q5 lq; obtain ⟨p0, p1, p2, p3, p4, p5⟩ := At.z6 (HA.out.fut (w' := w5)).at0; have lp := (HA.out.fut (w' := w5)).lt; obtain ⟨q0, q1, q2, q3, q4, q5⟩ := At.z6 (HB.out.fut (w' := w5)).at0; have lq := (HB.out.fut (w' := w5)).lt) | (go_at_call 61; (with_reducible refine (EFF.out _).mono ?_); rintro e w6 ⟨rfl, hs6⟩; clear p0 p1 p2 p3 p4 p5 lp q0 q1 q2 q3 q4 q5 lq; obtain ⟨p0, p1, p2, p3, p4, p5⟩ := At.z6 (HA.out.fut (w' := w6)).at0; have lp := (HA.out.fut (w' := w6)).lt; obtain ⟨q0, q1, q2, q3, q4, q5⟩ := At.z6 (HB.out.fut (w' := w6)).at0; have lq := (HB.out.fut (w' := w6)).lt))
    go_ret
    exact ⟨⟨false, rfl, by simpa using NP.out⟩, Step.of⟩
  | true =>
    rw [m1] at MA
    have M1 := hide m1
    have MA := hide MA
    clear m1
    cases m2 : tabB b.tb with
    | false =>
      rw [m2] at MB
      have NP : Hid (¬ SameT a.tb b.tb) := fun h => by have := h.may2; rw [m2] at this; cases this
      have MB := hide MB
      clear m2 EC EFF
      go_enter Tryz.func21, Tryz.ntmps21
      go_upto_region 1 with fail
      rw [← HW.out]
      obtain ⟨p0, p1, p2, p3, p4, p5⟩ := At.z6 (HA.out.fut (w' := W)).at0
      have lp := (HA.out.fut (w' := W)).lt
      obtain ⟨q0, q1, q2, q3, q4, q5⟩ := At.z6 (HB.out.fut (w' := W)).at0
      have lq := (HB.out.fut (w' := W)).lt
      go_wp2_with (first | (go_at_call 19; first | (with_reducible refine (MA.out _).mono ?_; rintro e w3 ⟨rfl, hs3⟩; clear p0 p1 p2 p3 p4 p5 lp q0 q1 q2 q3 q4 q5 lq; obtain ⟨p0, p1, p2, p3, p4, p5⟩ := At.z6 (HA.out.fut (w' := w3)).at0; have lp := (HA.out.fut (w' := w3)).lt; obtain ⟨q0, q1, q2, q3, q4, q5⟩ := At.z6 (HB.out.fut (w' := w3)).at0; have lq := (HB.out.fut (w' := w3)).lt) | (with_reducible refine (MB.out _).mono ?_; rintro e w4 ⟨rfl, hs4⟩; clear p0 p1 p2 p3 p4 p5 lp q0 q1 q2 q3 q4 q5 lq; obtain ⟨p0, p1, p2, p3, p4, p5⟩ := At.z6 (HA.out.fut (w' := w4)).at0; have lp := (HA.out.fut (w' := w4)).lt; obtain ⟨q0, q1, q2, q3, q4, q5⟩ := At.z6 (HB.out.fut (w' := w4)).at0; have lq := (HB.out.fut (w' := w4)).lt)) | (go_at_call 60; (with_reducible refine (EC.out _).mono ?_); rintro e w5 ⟨rfl, hs5⟩; clear p0 p1 p2 p3 p4 p5 lp q0 q1 q2 q3 q4 q5 lq; obtain ⟨p0, p1, p2, p3, p4, p5⟩ := At.z6 (HA.out.fut (w' := w5)).at0; have lp := (HA.out.fut (w' := w5)).lt; obtain ⟨q0, q1, q2, q3, q4, q5⟩ := At.z6 (HB.out.fut (w' := w5)).at0; have lq := (HB.out.fut (w' := w5)).lt) | (go_at_call 61; (with_reducible refine (EFF.out _).mono ?_); rintro e w6 ⟨rfl, hs6⟩; clear p0 p1 p2 p3 p4 p5 lp q0 q1 q2 q3 q4 q5 lq; obtain ⟨p0, p1, p2, p3, p4, p5⟩ := At.z6 (HA.out.fut (w' := w6)).at0; have lp := (HA.out.fut (w' := w6)).lt; obtain ⟨q0, q1, q2, q3, q4, q5⟩ := At.z6 (HB.out.fut (w' := w6)).at0; have lq := (HB.out.fut (w' := w6)).lt))
      go_ret
      exact ⟨⟨false, rfl, by simpa using NP.out⟩, Step.of⟩
    | true =>
      rw [m2] at MB
      have M2 := hide m2
      have MB := hide MB
      clear m2
      by_cases e1 : a.s.id = b.s.id
      · have g1 : (a.s.id != b.s.id) = false := bne_eq_false_iff_eq.2 e1
        have E1 := hide e1
        clear e1
        by_cases e2 : a.s.next = b.s.next
        · have g2 : (a.s.next != b.s.next) = false := bne_eq_false_iff_eq.2 e2
          have E2 := hide e2
          clear e2
          cases e3 : eqCs a.s.cols b.s.cols with
          | false =>
            rw [e3] at EC
            have NP : Hid (¬ SameT a.tb b.tb) := fun h => by have := eqCs_iff.2 h.cols; rw [show a.tb.s = a.s from rfl, show b.tb.s = b.s from rfl, e3] at this; cases this
            have EC := hide EC
            clear e3 EFF
            go_enter Tryz.func21, Tryz.ntmps21
            go_upto_region 1 with fail
            rw [← HW.out]
            obtain ⟨p0, p1, p2, p3, p4, p5⟩ := At.z6 (HA.out.fut (w' := W)).at0
            have lp := (HA.out.fut (w' := W)).lt
            obtain ⟨q0, q1, q2, q3, q4, q5⟩ := At.z6 (HB.out.fut (w' := W)).at0
            have lq := (HB.out.fut (w' := W)).lt
            go_wp2_with (first | (go_at_call 19; first | (with_reducible refine (MA.out _).mono ?_; rintro e w3 ⟨rfl, hs3⟩; clear p0 p1 p2 p3 p4 p5 lp q0 q1 q2 q3 q4 q5 lq; obtain ⟨p0, p1, p2, p3, p4, p5⟩ := At.z6 (HA.out.fut (w' := w3)).at0; have lp := (HA.out.fut (w' := w3)).lt; obtain ⟨q0, q1, q2, q3, q4, q5⟩ := At.z6 (HB.out.fut (w' := w3)).at0; have lq := (HB.out.fut (w' := w3)).lt) | (with_reducible refine (MB.out _).mono ?_; rintro e w4 ⟨rfl, hs4⟩; clear p0 p1 p2 p3 p4 p5 lp q0 q1 q2 q3 q4 q5 lq; obtain ⟨p0, p1, p2, p3, p4, p5⟩ := At.z6 (HA.out.fut (w' := w4)).at0; have lp := (HA.out.fut (w' := w4)).lt; obtain ⟨q0, q1, q2, q3, q4, q5⟩ := At.z6 (HB.out.fut (w' := w4)).at0; have lq := (HB.out.fut (w' := w4)).lt)) | (go_at_call 60; (with_reducible refine (EC.out _).mono ?_); rintro e w5 ⟨rfl, hs5⟩; clear p0 p1 p2 p3 p4 p5 lp q0 q1 q2 q3 q4 q5 lq; obtain ⟨p0, p1, p2, p3, p4, p5⟩ := At.z6 (HA.out.fut (w' := w5)).at0; have lp := (HA.out.fut (w' := w5)).lt; obtain ⟨q0, q1, q2, q3, q4, q5⟩ := At.z6 (HB.out.fut (w' := w5)).at0; have lq := (HB.out.fut (w' := w5)).lt) | (go_at_call 61; (with_reducible refine (EFF.out _).mono ?_); rintro e w6 ⟨rfl, hs6⟩; clear p0 p1 p2 p3 p4 p5 lp q0 q1 q2 q3 q4 q5 lq; obtain ⟨p0, p1, p2, p3, p4, p5⟩ := At.z6 (HA.out.fut (w' := w6)).at0; have lp := (HA.out.fut (w' := w6)).lt; obtain ⟨q0, q1, q2, q3, q4, q5⟩ := At.z6 (HB.out.fut (w' := w6)).at0; have lq := (HB.out.fut (w' := w6)).lt))
            go_ret
            exact ⟨⟨false, rfl, by simpa using NP.out⟩, Step.of⟩
          | true =>
            rw [e3] at EC
            have E3 := hide (eqCs_iff.1 e3)
            have EC := hide EC
            clear e3
            by_cases e4 : a.sid = b.sid
            · have g4 : (a.sid != b.sid) = false := bne_eq_false_iff_eq.2 e4
              have E4 := hide e4
              clear e4
              cases e5 : eqFs a.fs b.fs with
              | false =>
                rw [e5] at EFF
                have NP : Hid (¬ SameT a.tb b.tb) := fun h => by have := eqFs_iff.2 h.fs; rw [show a.tb.fs = a.fs from rfl, show b.tb.fs = b.fs from rfl, e5] at this; cases this
                have EFF := hide EFF
                clear e5
                go_enter Tryz.func21, Tryz.ntmps21
                go_upto_region 1 with fail
                rw [← HW.out]
                obtain ⟨p0, p1, p2, p3, p4, p5⟩ := At.z6 (HA.out.fut (w' := W)).at0
                have lp := (HA.out.fut (w' := W)).lt
                obtain ⟨q0, q1, q2, q3, q4, q5⟩ := At.z6 (HB.out.fut (w' := W)).at0
                have lq := (HB.out.fut (w' := W)).lt
                go_wp2_with (first | (go_at_call 19; first | (with_reducible refine (MA.out _).mono ?_; rintro e w3 ⟨rfl, hs3⟩; clear p0 p1 p2 p3 p4 p5 lp q0 q1 q2 q3 q4 q5 lq; obtain ⟨p0, p1, p2, p3, p4, p5⟩ := At.z6 (HA.out.fut (w' := w3)).at0; have lp := (HA.out.fut (w' := w3)).lt; obtain ⟨q0, q1, q2, q3, q4, q5⟩ := At.z6 (HB.out.fut (w' := w3)).at0; have lq := (HB.out.fut (w' := w3)).lt) | (with_reducible refine (MB.out _).mono ?_; rintro e w4 ⟨rfl, hs4⟩; clear p0 p1 p2 p3 p4 p5 lp q0 q1 q2 q3 q4 q5 lq; obtain ⟨p0, p1, p2, p3, p4, p5⟩ := At.z6 (HA.out.fut (w' := w4)).at0; have lp := (HA.out.fut (w' := w4)).lt; obtain ⟨q0, q1, q2, q3, q4, q5⟩ := At.z6 (HB.out.fut (w' := w4)).at0; have lq := (HB.out.fut (w' := w4)).lt)) | (go_at_call 60; (with_reducible refine (EC.out _).mono ?_); rintro e w5 ⟨rfl, hs5⟩; clear p0 p1 p2 p3 p4 p5 lp q0 q1 q2 q3 q4 q5 lq; obtain ⟨p0, p1, p2, p3, p4, p5⟩ := At.z6 (HA.out.fut (w' := w5)).at0; have lp := (HA.out.fut (w' := w5)).lt; obtain ⟨q0, q1, q2, q3, q4, q5⟩ := At.z6 (HB.out.fut (w' := w5)).at0; have lq := (HB.out.fut (w' := w5)).lt) | (go_at_call 61; (with_reducible refine (EFF.out _).mono ?_); rintro e w6 ⟨rfl, hs6⟩; clear p0 p1 p2 p3 p4 p5 lp q0 q1 q2 q3 q4 q5 lq; obtain ⟨p0, p1, p2, p3, p4, p5⟩ := At.z6 (HA.out.fut (w' := w6)).at0; have lp := (HA.out.fut (w' := w6)).lt; obtain ⟨q0, q1, q2, q3, q4, q5⟩ := At.z6 (HB.out.fut (w' := w6)).at0; have lq := (HB.out.fut (w' := w6)).lt))
                go_ret
                exact ⟨⟨false, rfl, by simpa using NP.out⟩, Step.of⟩
              | true =>
                rw [e5] at EFF
                have E5 := hide (eqFs_iff.1 e5)
                have EFF := hide EFF
                clear e5
                have FIN : Hid (∀ {o7 o8 : List RowA}, o7.length = a.rs.length → Asc lessL (o7.map RowA.vs) → (o7.map RowA.vs).Perm (a.rs.map fun r => cleanL r.vs) → o8.length = b.rs.length → Asc lessL (o8.map RowA.vs) → (o8.map RowA.vs).Perm (b.rs.map fun r => cleanL r.vs) → (eqRs rowEq o7 o8 = true ↔ SameT a.tb b.tb)) := by
                  intro o7 o8 _ k2 k3 _ k5 k6
                  rw [eqRs_iff, sorted_same M1.out M2.out k2 (by show List.Perm _ ((a.rs.map RowA.vs).map cleanL); rw [List.map_map]; exact k3) k5 (by show List.Perm _ ((b.rs.map RowA.vs).map cleanL); rw [List.map_map]; exact k6)]
                  exact ⟨fun h => ⟨M1.out, M2.out, E1.out, E2.out, E3.out, E4.out, E5.out, h⟩, fun h => h.rows⟩
                go_enter Tryz.func21, Tryz.ntmps21
                go_upto_region 1 with fail
                rw [← HW.out]
                obtain ⟨p0, p1, p2, p3, p4, p5⟩ := At.z6 (HA.out.fut (w' := W)).at0
                have lp := (HA.out.fut (w' := W)).lt
                obtain ⟨q0, q1, q2, q3, q4, q5⟩ := At.z6 (HB.out.fut (w' := W)).at0
                have lq := (HB.out.fut (w' := W)).lt
                go_wp2_with (first | (go_at_call 19; first | (with_reducible refine (MA.out _).mono ?_; rintro e w3 ⟨rfl, hs3⟩; clear p0 p1 p2 p3 p4 p5 lp q0 q1 q2 q3 q4 q5 lq; obtain ⟨p0, p1, p2, p3, p4, p5⟩ := At.z6 (HA.out.fut (w' := w3)).at0; have lp := (HA.out.fut (w' := w3)).lt; obtain ⟨q0, q1, q2, q3, q4, q5⟩ := At.z6 (HB.out.fut (w' := w3)).at0; have lq := (HB.out.fut (w' := w3)).lt) | (with_reducible refine (MB.out _).mono ?_; rintro e w4 ⟨rfl, hs4⟩; clear p0 p1 p2 p3 p4 p5 lp q0 q1 q2 q3 q4 q5 lq; obtain ⟨p0, p1, p2, p3, p4, p5⟩ := At.z6 (HA.out.fut (w' := w4)).at0; have lp := (HA.out.fut (w' := w4)).lt; obtain ⟨q0, q1, q2, q3, q4, q5⟩ := At.z6 (HB.out.fut (w' := w4)).at0; have lq := (HB.out.fut (w' := w4)).lt)) | (go_at_call 60; (with_reducible refine (EC.out _).mono ?_); rintro e w5 ⟨rfl, hs5⟩; clear p0 p1 p2 p3 p4 p5 lp q0 q1 q2 q3 q4 q5 lq; obtain ⟨p0, p1, p2, p3, p4, p5⟩ := At.z6 (HA.out.fut (w' := w5)).at0; have lp := (HA.out.fut (w' := w5)).lt; obtain ⟨q0, q1, q2, q3, q4, q5⟩ := At.z6 (HB.out.fut (w' := w5)).at0; have lq := (HB.out.fut (w' := w5)).lt) | (go_at_call 61; (with_reducible refine (EFF.out _).mono ?_); rintro e w6 ⟨rfl, hs6⟩; clear p0 p1 p2 p3 p4 p5 lp q0 q1 q2 q3 q4 q5 lq; obtain ⟨p0, p1, p2, p3, p4, p5⟩ := At.z6 (HA.out.fut (w' := w6)).at0; have lp := (HA.out.fut (w' := w6)).lt; obtain ⟨q0, q1, q2, q3, q4, q5⟩ := At.z6 (HB.out.fut (w' := w6)).at0; have lq := (HB.out.fut (w' := w6)).lt))
                obtain ⟨wq, hwq⟩ : ∃ x : World, x = w6 := ⟨_, rfl⟩
                rw [← hwq] at hs6 p0 p1 p2 p3 p4 p5 lp q0 q1 q2 q3 q4 q5 lq
                rw [← hwq]
                clear hwq
                refine wp_region_held_drew (S := (fun w' => Step wq w' ∧ (∀ b o, b < wq.heap.size → w'.cell? ⟨b, o, none⟩ = wq.cell? ⟨b, o, none⟩))) (by kernel_rfl) (by (try dsimp only); (first | exact ⟨hS1, hS2⟩ | exact ⟨Step.of, (bcell (fut _ _)).1⟩)) (fun hHeld => ?_)
                refine wT 0 60 (by assumption) ?_
                refine wT 3 63 (by assumption) ?_
                refine wT 1 61 (by assumption) ?_
                refine wT 4 64 (by assumption) ?_
                refine wpAnyH_ready (rs := [2]) (by kernel_rfl) (by simp) ?_
                refine AllReadyH.cons (o := ⟨some 62, _, _, _, _, _⟩) rfl (fun K hK => ?_) AllReadyH.nil
                obtain ⟨hS1, hS2⟩ := hHeld
                go_simp
                (go_at_call 63; (with_reducible refine (SA.out _).mono ?_); rintro e w7 ⟨A7, c7, o7, rfl, hl7, ha7, hp7, ho7, hs7⟩; have HO7 := hide ho7; have HL7 := hide hl7; have HA7 := hide ha7; have HP7 := hide hp7; clear ho7 hl7 ha7 hp7)
                refine hK.out _ _ (by (try dsimp only); (first | exact ⟨hS1, hS2⟩ | exact ⟨Step.of, (bcell (fut _ _)).1⟩)) (fun hHeld => ?_)
                clear hK K
                (try simp only [Act.put, List.setIfInBounds_toArray, List.set_cons_zero, List.set_cons_succ])
                refine wpAnyH_ready (rs := [5]) (by kernel_rfl) (by simp) ?_
                refine AllReadyH.cons (o := ⟨some 65, _, _, _, _, _⟩) rfl (fun K hK => ?_) AllReadyH.nil
                obtain ⟨hS1, hS2⟩ := hHeld
                go_simp
                (go_at_call 63; (with_reducible refine (SB.out _).mono ?_); rintro e w8 ⟨A8, c8, o8, rfl, hl8, ha8, hp8, ho8, hs8⟩; have HO8 := hide ho8; have HL8 := hide hl8; have HA8 := hide ha8; have HP8 := hide hp8; clear ho8 hl8 ha8 hp8)
                refine hK.out _ _ (by (try dsimp only); (first | exact ⟨hS1, hS2⟩ | exact ⟨Step.of, (bcell (fut _ _)).1⟩)) (fun hHeld => ?_)
                clear hK K
                (try simp only [Act.put, List.setIfInBounds_toArray, List.set_cons_zero, List.set_cons_succ])
                refine wpAnyH_ready (rs := [6]) (by kernel_rfl) (by simp) ?_
                refine AllReadyH.cons (o := ⟨some 66, _, _, _, _, _⟩) rfl (fun K hK => ?_) AllReadyH.nil
                obtain ⟨hS1, hS2⟩ := hHeld
                go_simp
                (go_at_call 62; (with_reducible refine (EF.out HO7.out HL7.out HO8.out HL8.out (VL.out HP7.out) _).mono ?_); rintro e w9 ⟨rfl, hs9⟩)
                refine hK.out _ _ (by (try dsimp only); (first | exact ⟨hS1, hS2⟩ | exact ⟨Step.of, (bcell (fut _ _)).1⟩)) (fun hHeld => ?_)
                clear hK K
                (try simp only [Act.put, List.setIfInBounds_toArray, List.set_cons_zero, List.set_cons_succ])
                refine wT 7 4 (by assumption) ?_
                refine wpAnyH_done (by kernel_rfl) ?_ _
                go_wp2_with fail
                go_ret
                exact ⟨⟨_, rfl, FIN.out HL7.out HA7.out HP7.out HL8.out HA8.out HP8.out⟩, Step.of⟩
            · have g4 : (a.sid != b.sid) = true := bne_iff_ne.2 e4
              have NP : Hid (¬ SameT a.tb b.tb) := fun h => e4 h.sid
              clear e4 EFF
              go_enter Tryz.func21, Tryz.ntmps21
              go_upto_region 1 with fail
              rw [← HW.out]
              obtain ⟨p0, p1, p2, p3, p4, p5⟩ := At.z6 (HA.out.fut (w' := W)).at0
              have lp := (HA.out.fut (w' := W)).lt
              obtain ⟨q0, q1, q2, q3, q4, q5⟩ := At.z6 (HB.out.fut (w' := W)).at0
              have lq := (HB.out.fut (w' := W)).lt
              go_wp2_with (first | (go_at_call 19; first | (with_reducible refine (MA.out _).mono ?_; rintro e w3 ⟨rfl, hs3⟩; clear p0 p1 p2 p3 p4 p5 lp q0 q1 q2 q3 q4 q5 lq; obtain ⟨p0, p1, p2, p3, p4, p5⟩ := At.z6 (HA.out.fut (w' := w3)).at0; have lp := (HA.out.fut (w' := w3)).lt; obtain ⟨q0, q1, q2, q3, q4, q5⟩ := At.z6 (HB.out.fut (w' := w3)).at0; have lq := (HB.out.fut (w' := w3)).lt) | (with_reducible refine (MB.out _).mono ?_; rintro e w4 ⟨rfl, hs4⟩; clear p0 p1 p2 p3 p4 p5 lp q0 q1 q2 q3 q4 q5 lq; obtain ⟨p0, p1, p2, p3, p4, p5⟩ := At.z6 (HA.out.fut (w' := w4)).at0; have lp := (HA.out.fut (w' := w4)).lt; obtain ⟨q0, q1, q2, q3, q4, q5⟩ := At.z6 (HB.out.fut (w' := w4)).at0; have lq := (HB.out.fut (w' := w4)).lt)) | (go_at_call 60; (with_reducible refine (EC.out _).mono ?_); rintro e w5 ⟨rfl, hs5⟩; clear p0 p1 p2 p3 p4 p5 lp q0 q1 q2 q3 q4 q5 lq; obtain ⟨p0, p1, p2, p3, p4, p5⟩ := At.z6 (HA.out.fut (w' := w5)).at0; have lp := (HA.out.fut (w' := w5)).lt; obtain ⟨q0, q1, q2, q3, q4, q5⟩ := At.z6 (HB.out.fut (w' := w5)).at0; have lq := (HB.out.fut (w' := w5)).lt) | (go_at_call 61; (with_reducible refine (EFF.out _).mono ?_); rintro e w6 ⟨rfl, hs6⟩; clear p0 p1 p2 p3 p4 p5 lp q0 q1 q2 q3 q4 q5 lq; obtain ⟨p0, p1, p2, p3, p4, p5⟩ := At.z6 (HA.out.fut (w' := w6)).at0; have lp := (HA.out.fut (w' := w6)).lt; obtain ⟨q0, q1, q2, q3, q4, q5⟩ := At.z6 (HB.out.fut (w' := w6)).at0; have lq := (HB.out.fut (w' := w6)).lt))
              go_ret
              exact ⟨⟨false, rfl, by simpa using NP.out⟩, Step.of⟩
        · have g2 : (a.s.next != b.s.next) = true := bne_iff_ne.2 e2
          have NP : Hid (¬ SameT a.tb b.tb) := fun h => e2 h.next
          clear e2 EC EFF
          go_enter Tryz.func21, Tryz.ntmps21
          go_upto_region 1 with fail
          rw [← HW.out]
          obtain ⟨p0, p1, p2, p3, p4, p5⟩ := At.z6 (HA.out.fut (w' := W)).at0
          have lp := (HA.out.fut (w' := W)).lt
          obtain ⟨q0, q1, q2, q3, q4, q5⟩ := At.z6 (HB.out.fut (w' := W)).at0
          have lq := (HB.out.fut (w' := W)).lt
          go_wp2_with (first | (go_at_call 19; first | (with_reducible refine (MA.out _).mono ?_; rintro e w3 ⟨rfl, hs3⟩; clear p0 p1 p2 p3 p4 p5 lp q0 q1 q2 q3 q4 q5 lq; obtain ⟨p0, p1, p2, p3, p4, p5⟩ := At.z6 (HA.out.fut (w' := w3)).at0; have lp := (HA.out.fut (w' := w3)).lt; obtain ⟨q0, q1, q2, q3, q4, q5⟩ := At.z6 (HB.out.fut (w' := w3)).at0; have lq := (HB.out.fut (w' := w3)).lt) | (with_reducible refine (MB.out _).mono ?_; rintro e w4 ⟨rfl, hs4⟩; clear p0 p1 p2 p3 p4 p5 lp q0 q1 q2 q3 q4 q5 lq; obtain ⟨p0, p1, p2, p3, p4, p5⟩ := At.z6 (HA.out.fut (w' := w4)).at0; have lp := (HA.out.fut (w' := w4)).lt; obtain ⟨q0, q1, q2, q3, q4, q5⟩ := At.z6 (HB.out.fut (w' := w4)).at0; have lq := (HB.out.fut (w' := w4)).lt)) | (go_at_call 60; (with_reducible refine (EC.out _).mono ?_); rintro e w5 ⟨rfl, hs5⟩; clear p0 p1 p2 p3 p4 p5 lp q0 q1 q2 q3 q4 q5 lq; obtain ⟨p0, p1, p2, p3, p4, p5⟩ := At.z6 (HA.out.fut (w' := w5)).at0; have lp := (HA.out.fut (w' := w5)).lt; obtain ⟨q0, q1, q2, q3, q4, q5⟩ := At.z6 (HB.out.fut (w' := w5)).at0; have lq := (HB.out.fut (w' := w5)).lt) | (go_at_call 61; (with_reducible refine (EFF.out _).mono ?_); rintro e w6 ⟨rfl, hs6⟩; clear p0 p1 p2 p3 p4 p5 lp q0 q1 q2 q3 q4 q5 lq; obtain ⟨p0, p1, p2, p3, p4, p5⟩ := At.z6 (HA.out.fut (w' := w6)).at0; have lp := (HA.out.fut (w' := w6)).lt; obtain ⟨q0, q1, q2, q3, q4, q5⟩ := At.z6 (HB.out.fut (w' := w6)).at0; have lq := (HB.out.fut (w' := w6)).lt))
          go_ret
          exact ⟨⟨false, rfl, by simpa using NP.out⟩, Step.of⟩
      · have g1 : (a.s.id != b.s.id) = true := bne_iff_ne.2 e1
        have NP : Hid (¬ SameT a.tb b.tb) := fun h => e1 h.id
        clear e1 EC EFF
        go_enter Tryz.func21, Tryz.ntmps21
        go_upto_region 1 with fail
        rw [← HW.out]
        obtain ⟨p0, p1, p2, p3, p4, p5⟩ := At.z6 (HA.out.fut (w' := W)).at0
        have lp := (HA.out.fut (w' := W)).lt
        obtain ⟨q0, q1, q2, q3, q4, q5⟩ := At.z6 (HB.out.fut (w' := W)).at0
        have lq := (HB.out.fut (w' := W)).lt
        go_wp2_with (first | (go_at_call 19; first | (with_reducible refine (MA.out _).mono ?_; rintro e w3 ⟨rfl, hs3⟩; clear p0 p1 p2 p3 p4 p5 lp q0 q1 q2 q3 q4 q5 lq; obtain ⟨p0, p1, p2, p3, p4, p5⟩ := At.z6 (HA.out.fut (w' := w3)).at0; have lp := (HA.out.fut (w' := w3)).lt; obtain ⟨q0, q1, q2, q3, q4, q5⟩ := At.z6 (HB.out.fut (w' := w3)).at0; have lq := (HB.out.fut (w' := w3)).lt) | (with_reducible refine (MB.out _).mono ?_; rintro e w4 ⟨rfl, hs4⟩; clear p0 p1 p2 p3 p4 p5 lp q0 q1 q2 q3 q4 q5 lq; obtain ⟨p0, p1, p2, p3, p4, p5⟩ := At.z6 (HA.out.fut (w' := w4)).at0; have lp := (HA.out.fut (w' := w4)).lt; obtain ⟨q0, q1, q2, q3, q4, q5⟩ := At.z6 (HB.out.fut (w' := w4)).at0; have lq := (HB.out.fut (w' := w4)).lt)) | (go_at_call 60; (with_reducible refine (EC.out _).mono ?_); rintro e w5 ⟨rfl, hs5⟩; clear p0 p1 p2 p3 p4 p5 lp q0 q1 q2 q3 q4 q5 lq; obtain ⟨p0, p1, p2, p3, p4, p5⟩ := At.z6 (HA.out.fut (w' := w5)).at0; have lp := (HA.out.fut (w' := w5)).lt; obtain ⟨q0, q1, q2, q3, q4, q5⟩ := At.z6 (HB.out.fut (w' := w5)).at0; have lq := (HB.out.fut (w' := w5)).lt) | (go_at_call 61; (with_reducible refine (EFF.out _).mono ?_); rintro e w6 ⟨rfl, hs6⟩; clear p0 p1 p2 p3 p4 p5 lp q0 q1 q2 q3 q4 q5 lq; obtain ⟨p0, p1, p2, p3, p4, p5⟩ := At.z6 (HA.out.fut (w' := w6)).at0; have lp := (HA.out.fut (w' := w6)).lt; obtain ⟨q0, q1, q2, q3, q4, q5⟩ := At.z6 (HB.out.fut (w' := w6)).at0; have lq := (HB.out.fut (w' := w6)).lt))
        go_ret
        exact ⟨⟨false, rfl, by simpa using NP.out⟩, Step.of⟩
end Go.Proofs.YtnphokhehacfnaaGreatDoor

