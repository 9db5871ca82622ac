/-
  Values held against values, whatever they are.
-/
import Derived.Test.YtafgfehjdbomfaaDoorFlVal
import Derived.Test.YtafgfehjdbomfaaDoorRo
namespace Go.Proofs.YtafgfehjdbomfaaDoor
open Go.RowKit

def eqV (x y : Val) : Bool := x.kind == y.kind && x.i == y.i && x.b == y.b && x.s.toList == y.s.toList
def eqVs (a b : List Val) : Bool := a.length == b.length && (a.zip b).all fun p => eqV p.1 p.2
theorem eqV_iff {x y : Val} : eqV x y = true ↔ x = y := by
  obtain ⟨a, b, c, d⟩ := x
  obtain ⟨a', b', c', d'⟩ := y
  simp only [eqV, Bool.and_eq_true, beq_iff_eq, Val.mk.injEq]
  constructor
  · rintro ⟨⟨⟨h1, h2⟩, h3⟩, h4⟩
    refine ⟨h1, h2, h3, ?_⟩
    rw [ByteArray.toList_eq, ByteArray.toList_eq] at h4
    apply ByteArray.ext
    exact Array.toList_inj.1 h4
  · rintro ⟨h1, h2, h3, h4⟩
    exact ⟨⟨⟨h1, h2⟩, h3⟩, by rw [h4]⟩
theorem eqVs_iff : ∀ {a b : List Val}, eqVs a b = true ↔ a = b
  | [], [] => by simp [eqVs]
  | [], y :: ys => by simp [eqVs]
  | x :: xs, [] => by simp [eqVs]
  | x :: xs, y :: ys => by
    have ih := eqVs_iff (a := xs) (b := ys)
    simp only [eqVs, Bool.and_eq_true, beq_iff_eq] at ih ⊢
    simp only [List.length_cons, List.zip_cons_cons, List.all_cons, Bool.and_eq_true, eqV_iff, List.cons.injEq]
    constructor
    · rintro ⟨h1, h2, h3⟩
      exact ⟨h2, ih.1 ⟨by omega, h3⟩⟩
    · rintro ⟨h1, h2⟩
      have := ih.2 h2
      exact ⟨by omega, h1, this.2⟩
set_option maxRecDepth 100000 in
set_option maxHeartbeats 4000000 in
theorem sameVals_any {w1 w2 : World} (a b : List Val) (A1 A2 : Option Addr) (c1 c2 : Nat) (w : World) (h1 : SlAt w1 w1.heap.size 4 A1 (a.map Val.cells)) (h2 : SlAt w2 w2.heap.size 4 A2 (b.map Val.cells)) [f1 : Fut w1 w] [f2 : Fut w2 w] (hl : a.length ≤ 4611686018427387904) :
    Calls Tryd.prog 27 #[.slice A1 a.length c1, .slice A2 b.length c2] w fun e w' => e = .returned (.bool (eqVs a b)) ∧ Step w w' := by
  have z1 := f1.below.size; have z2 := f2.below.size
  obtain ⟨T, hT⟩ : ∃ T, eqVs a b = T := ⟨_, rfl⟩
  have HT := hide hT
  rw [hT]
  clear hT
  by_cases hlen : a.length = b.length
  · have HL := hide hlen
    rw [← hlen]
    have HT : Hid (((a.zip b).all fun p => eqV p.1 p.2) = T) := by show _ = _; rw [← HT.out, eqVs, hlen]; simp
    clear hlen
    go_enter Tryd.func27, Tryd.ntmps27
    go_wp2_with fail
    go_loopw [5] (fun i wr => ∃ k : Nat, k ≤ a.length ∧ i = .int .i64 k ∧ Hid ((((a.zip b).drop k).all fun p => eqV p.1 p.2) = T) ∧ Step w wr) (fun i _ => a.length - (intOf i).toNat)
    case atStart => exact ⟨0, Nat.zero_le _, rfl, HT.out, Step.of⟩
    case round =>
      clear HT
      obtain ⟨k, hk, rfl, HT, hst⟩ := hrel
      obtain ⟨wo, rfl⟩ : ∃ x : World, x = wr := ⟨_, rfl⟩
      have hzo := hst.size
      by_cases hlt : k < a.length
      · obtain ⟨b1, o1, hA1, hb1, hc1⟩ := h1.elem (w' := wo) inferInstance (k := k) (by simpa using hlt)
        obtain ⟨b2, o2, hA2, hb2, hc2⟩ := h2.elem (w' := wo) inferInstance (k := k) (by have := HL.out; simp; omega)
        obtain ⟨x, hx⟩ : ∃ x, a[k]? = some x := ⟨_, List.getElem?_eq_getElem hlt⟩
        obtain ⟨y, hy⟩ : ∃ y, b[k]? = some y := ⟨_, List.getElem?_eq_getElem (by have := HL.out; omega)⟩
        obtain ⟨p0, p1, p2, p3⟩ := At.l4 (hc1 k x.cells (by simp [hx]))
        obtain ⟨q0, q1, q2, q3⟩ := At.l4 (hc2 k y.cells (by simp [hy]))
        have l1 : b1 < wo.heap.size := by omega
        have l2 : b2 < wo.heap.size := by omega
        have hkl : (k : Int) < (a.length : Int) := by omega
        have hk0 : (0 : Int) ≤ (k : Int) := by omega
        have HT2 : Hid ((eqV x y && ((a.zip b).drop (k + 1)).all fun p => eqV p.1 p.2) = T) := by
          show _ = _
          have hz : (a.zip b)[k]? = some (x, y) := by rw [List.getElem?_zip_eq_some]; exact ⟨hx, hy⟩
          obtain ⟨hkz, hke⟩ := List.getElem?_eq_some_iff.1 hz
          rw [← HT.out, List.drop_eq_getElem_cons hkz, List.all_cons, hke]
        rw [hA1, hA2]
        clear hc1 hc2 hx hy hA1 hA2
        by_cases exy : x = y
        · subst exy
          have HT3 : Hid ((((a.zip b).drop (k + 1)).all fun p => eqV p.1 p.2) = T) := by show _ = _; rw [← HT2.out, eqV_iff.2 rfl]; simp
          go_wp2
          go_quiet (fail)
          go_wp2
          go_roundw
          case rel => exact ⟨k + 1, by omega, by go_num, HT3.out, Step.of⟩
          case measure => simp [intOf]; omega
        · obtain rfl : T = false := by
            rw [← HT2.out]
            cases e : eqV x y with
            | true => exact absurd (eqV_iff.1 e) exy
            | false => rfl
          by_cases e0 : x.kind = y.kind
          · by_cases e1 : x.i = y.i
            · by_cases e2 : x.b = y.b
              · by_cases e3 : x.s.toList = y.s.toList
                · exact absurd (eqV_iff.1 (by rw [eqV, e0, e1, e2, e3]; simp)) exy
                · have g3 : (x.s.toList = y.s.toList) = False := eq_false e3
                  have g0 : (x.kind = y.kind) = True := eq_true e0
                  have g1 : (x.i = y.i) = True := eq_true e1
                  have g2 : (x.b = y.b) = True := eq_true e2
                  clear e0 e1 e2 e3 exy
                  go_wp2
                  go_quiet (fail)
                  go_wp2
                  go_ret
                  exact ⟨rfl, Step.of⟩
              · have g2 : (x.b = y.b) = False := eq_false e2
                have g0 : (x.kind = y.kind) = True := eq_true e0
                have g1 : (x.i = y.i) = True := eq_true e1
                clear e0 e1 e2 exy
                go_wp2
                go_quiet (fail)
                go_wp2
                go_ret
                exact ⟨rfl, Step.of⟩
            · have g1 : (x.i = y.i) = False := eq_false e1
              have g0 : (x.kind = y.kind) = True := eq_true e0
              clear e0 e1 exy
              go_wp2
              go_quiet (fail)
              go_wp2
              go_ret
              exact ⟨rfl, Step.of⟩
          · have g0 : (x.kind = y.kind) = False := eq_false e0
            clear e0 exy
            go_wp2
            go_quiet (fail)
            go_wp2
            go_ret
            exact ⟨rfl, Step.of⟩
      · obtain rfl : k = a.length := by omega
        obtain rfl : T = true := by
          rw [← HT.out, List.drop_eq_nil_of_le (by rw [List.length_zip, HL.out]; omega)]
          rfl
        go_wp2_with fail
        go_ret
        exact ⟨rfl, hst⟩
  · obtain rfl : T = false := by rw [← HT.out, eqVs, beq_eq_false_iff_ne.2 hlen]; rfl
    have hli : ((a.length : Int) = (b.length : Int)) = False := eq_false (by omega)
    go_enter Tryd.func27, Tryd.ntmps27
    go_wp2_with fail
    go_ret
    exact ⟨rfl, Step.of⟩
end Go.Proofs.YtafgfehjdbomfaaDoor
