/-
  Texts put together: what the packs struck of Gb, Df, Dn, Ds, Dv, Xa, Xg, Xc, Xd, Xe, Xm, Xi.
-/
import Derived.WalkKit
import Derived.ProofKit
import Derived.OpenShut
import Derived.LaidMore
import Derived.Lay
import Derived.Below
import Derived.ChangeSame
import Derived.SevenTiedAt
import Derived.Stop.Joined
import Derived.Deep.DeepHandedRow
import Derived.WalkSpells
import Derived.WalkLawsBesides
import Derived.BigQuiet
import Derived.Deep.QuietTactic
import Derived.Outline
import Derived.Lib.Hide
import Derived.Maps.AppendAt
import Derived.Deep.RegionLaw
import Derived.StillTailTactics
import Derived.Deep.RegionHeld3
import Derived.Deep.Slices
import Derived.Shelf.Strings.SlTrimAscii
import Derived.Laws.BitsAllLaws
import Derived.Deep.Cut
import Derived.Deep.CutBlock
import Derived.BigRegion
import Derived.Deep.DeepCutAuto
import Derived.Laws.Externs
import Derived.Tactics2
import Derived.Defers
import Derived.Recover
import Derived.WalkSmall
import Derived.Test.YtnphokhehacfnaaGreatDoorCz30
import Derived.Test.YtnphokhehacfnaaGreatDoorCz00
import Derived.Test.YtnphokhehacfnaaGreatDoorCz01
import Derived.Test.YtnphokhehacfnaaGreatDoorCz02
import Derived.Test.YtnphokhehacfnaaGreatDoorCz03
import Derived.Test.YtnphokhehacfnaaGreatDoorCz04
import Derived.Test.YtnphokhehacfnaaGreatDoorCz05
import Derived.Test.YtnphokhehacfnaaGreatDoorCz06
import Derived.Test.YtnphokhehacfnaaGreatDoorCz07
import Derived.Test.YtnphokhehacfnaaGreatDoorCz08
import Derived.Test.YtnphokhehacfnaaGreatDoorCz09
import Derived.Test.YtnphokhehacfnaaGreatDoorCz10
import Derived.Test.YtnphokhehacfnaaGreatDoorCz11
import Derived.Test.YtnphokhehacfnaaGreatDoorCz12
import Derived.Test.YtnphokhehacfnaaGreatDoorCz13
import Derived.Test.YtnphokhehacfnaaGreatDoorCz14
import Derived.Test.YtnphokhehacfnaaGreatDoorCz15
import Derived.Test.YtnphokhehacfnaaGreatDoorCz22
import Derived.Test.YtnphokhehacfnaaGreatDoorCz23
import Derived.Test.YtnphokhehacfnaaGreatDoorCz16
import Derived.Test.YtnphokhehacfnaaGreatDoorCz17
import Derived.Test.YtnphokhehacfnaaGreatDoorCz18
import Derived.Test.YtnphokhehacfnaaGreatDoorCz24
import Derived.Test.YtnphokhehacfnaaGreatDoorCz25
import Derived.Test.YtnphokhehacfnaaGreatDoorCz26
import Derived.Test.YtnphokhehacfnaaGreatDoorCz27
import Derived.Test.YtnphokhehacfnaaGreatDoorRz00
namespace Go.Proofs.YtnphokhehacfnaaGreatDoor
open Go.RowKit

theorem rangeI_len (a : Nat) : ∀ b, (rangeI a b).length = b - a
  | 0 => by simp [rangeI]
  | b + 1 => by
    have := rangeI_len a b
    rw [rangeI]
    split
    · simp; omega
    · simp; omega
theorem rangeI_self (a : Nat) : rangeI a a = [] := by
  cases a with
  | zero => rfl
  | succ a => rw [rangeI, if_neg (by omega)]
theorem rangeI_succ {a b : Nat} (h : a ≤ b) : rangeI a (b + 1) = rangeI a b ++ [(b : Int)] := by rw [rangeI, if_pos h]
theorem stW_none {many : Int} {at_ : List Int} {j : Nat} (h : stW many at_ j = none) : ∀ d, stW many at_ (j + d) = none
  | 0 => h
  | d + 1 => by rw [show j + (d + 1) = (j + d) + 1 from rfl, stW, stW_none h d]
theorem stW_bd {many : Int} {at_ : List Int} (hm : 0 ≤ many ∧ many ≤ 4096) : ∀ j st, stW many at_ j = some st → (st.1 : Int) ≤ many ∧ st.2.length ≤ st.1
  | 0, st, h => by simp [stW] at h; subst h; exact ⟨hm.1, Nat.le_refl _⟩
  | j + 1, st, h => by
    rw [stW] at h
    cases hj : stW many at_ j with
    | none => rw [hj] at h; simp at h
    | some s0 =>
      rw [hj] at h
      have ih := stW_bd hm j s0 hj
      simp only at h
      split at h
      · simp at h
      · rename_i hc
        obtain rfl := Option.some.inj h
        have := rangeI_len s0.1 (at_.getD j 0).toNat
        refine ⟨by simp only []; omega, ?_⟩
        simp only [List.length_append, this]
        omega
theorem stW_step {many : Int} {at_ : List Int} {j n xn : Nat} {o : List Int} (h : stW many at_ j = some (n, o)) (hx : at_[j]? = some (xn : Int)) (h1 : n ≤ xn) (h2 : (xn : Int) < many) : stW many at_ (j + 1) = some (xn + 1, o ++ rangeI n xn) := by
  have hg : at_.getD j 0 = (xn : Int) := by rw [List.getD_eq_getElem?_getD, hx]; rfl
  rw [stW, h]
  simp only [hg]
  rw [if_neg (by omega)]
  simp
theorem stW_bad {many : Int} {at_ : List Int} {j n : Nat} {x : Int} {o : List Int} (h : stW many at_ j = some (n, o)) (hx : at_[j]? = some x) (hb : x < (n : Int) ∨ many ≤ x) : stW many at_ at_.length = none := by
  have hg : at_.getD j 0 = x := by rw [List.getD_eq_getElem?_getD, hx]; rfl
  have h1 : stW many at_ (j + 1) = none := by
    rw [stW, h]
    simp only [hg]
    rw [if_pos hb]
  have hj := (List.getElem?_eq_some_iff.1 hx).1
  have := stW_none h1 (at_.length - (j + 1))
  rwa [show j + 1 + (at_.length - (j + 1)) = at_.length by omega] at this

set_option maxRecDepth 100000 in
set_option maxHeartbeats 16000000 in
theorem pwithout_any {w0 : World} (many : Int) (at_ : List Int) (Aa : Option Addr) (ca : Nat) (w : World) (ha : SlAt w0 w0.heap.size 1 Aa (intCells at_)) [f0 : Fut w0 w] (hal : at_.length ≤ 4611686018427387904) :
    Calls Tryz.prog 140 #[.int .i64 many, .slice Aa at_.length ca] w fun e w' => ∃ (A' : Option Addr) (c' : Nat), e = .returned (.tuple #[.slice A' (withoutR many at_).1.length c', .int .i64 (withoutR many at_).2]) ∧ Own w' w.heap.size 3 1 (.slice A' (withoutR many at_).1.length c') (intCells (withoutR many at_).1) ∧ Step w w' := by
  have z0 := f0.below.size
  obtain ⟨T, hT⟩ : ∃ T, withoutR many at_ = T := ⟨_, rfl⟩
  have HT := hide hT
  rw [hT]
  clear hT
  by_cases h0 : many < 0
  · obtain rfl : T = ([], 1600) := by rw [← HT.out, withoutR, if_pos (.inl h0)]
    go_enter Tryz.func140, Tryz.ntmps140
    go_wp2_with fail
    go_ret2
    exact ⟨none, 0, rfl, Own.nil_ _ _ _ _, Step.of⟩
  · by_cases h1 : 4096 < many
    · obtain rfl : T = ([], 1600) := by rw [← HT.out, withoutR, if_pos (.inr h1)]
      go_enter Tryz.func140, Tryz.ntmps140
      go_wp2_with fail
      go_ret2
      exact ⟨none, 0, rfl, Own.nil_ _ _ _ _, Step.of⟩
    · obtain ⟨M, rfl⟩ : ∃ M : Nat, many = (M : Int) := ⟨many.toNat, by omega⟩
      have hM : M ≤ 4096 := by omega
      have HNB : Hid (¬ ((M : Int) < 0 ∨ 4096 < (M : Int))) := by show ¬ _; omega
      have HBD := hide (stW_bd (many := (M : Int)) (at_ := at_) ⟨by omega, by omega⟩)
      go_enter Tryz.func140, Tryz.ntmps140
      go_wp2_with fail
      clear h0 h1
      go_loopw [6, 7, 9, 18] (fun out nx _ i wr => ∃ (j n m : Nat) (A' : Option Addr) (c' : Nat) (o : List Int), j ≤ at_.length ∧ i = .int .i64 j ∧ Hid (stW (M : Int) at_ j = some (n, o)) ∧ nx = .int .i64 n ∧ out = .slice A' m c' ∧ Hid (o.length = m) ∧ Own wr w.heap.size 3 1 (.slice A' m c') (intCells o) ∧ Step w wr) (fun _ _ _ i _ => at_.length - (intOf i).toNat)
      case atStart => exact ⟨0, 0, 0, none, 0, [], Nat.zero_le _, rfl, rfl, rfl, rfl, rfl, Own.nil_ _ _ _ _, Step.of⟩
      case round =>
        obtain ⟨j, n, m, A', c', o, hj, rfl, HS, rfl, rfl, HM, hown, hst⟩ := hrel
        have HO := hide hown; clear hown
        obtain ⟨wo, rfl⟩ : ∃ x : World, x = wr := ⟨_, rfl⟩
        have hzo := hst.size
        have hnb := HBD.out j (n, o) HS.out
        have hn1 : (n : Int) ≤ (M : Int) := hnb.1
        have hn2 : o.length ≤ n := hnb.2
        have HMN : Hid (m ≤ n) := by show m ≤ n; have := HM.out; omega
        clear hnb hn2
        by_cases hlt : j < at_.length
        · obtain ⟨b, off, rfl, hb, hc⟩ := ha.elem (w' := wo) inferInstance (k := j) (by rw [intCells_len]; exact hlt)
          obtain ⟨x, hx⟩ : ∃ x, at_[j]? = some x := ⟨_, List.getElem?_eq_getElem hlt⟩
          have x0 := At.l1 (hc j [.int .i64 x] (by simp [intCells, hx]))
          simp only [Nat.mul_one] at x0
          have hlb : b < wo.heap.size := by omega
          have hjl : (j : Int) < (at_.length : Int) := by omega
          have HX := hide hx
          clear hc hx
          by_cases hx1 : x < (n : Int)
          · have HBAD := hide (stW_bad HS.out HX.out (.inl hx1))
            obtain rfl : T = ([], 1600) := by rw [← HT.out, withoutR, if_neg HNB.out, HBAD.out]
            go_wp2_with fail
            go_ret2
            exact ⟨none, 0, rfl, Own.nil_ _ _ _ _, Step.of⟩
          · by_cases hx2 : (M : Int) ≤ x
            · have HBAD := hide (stW_bad HS.out HX.out (.inr hx2))
              obtain rfl : T = ([], 1600) := by rw [← HT.out, withoutR, if_neg HNB.out, HBAD.out]
              go_wp2_with fail
              go_ret2
              exact ⟨none, 0, rfl, Own.nil_ _ _ _ _, Step.of⟩
            · obtain ⟨xn, rfl⟩ : ∃ xn : Nat, x = (xn : Int) := ⟨x.toNat, by omega⟩
              have hnx : n ≤ xn := by omega
              have hxM : xn < M := by omega
              have HST := hide (stW_step HS.out HX.out hnx (by omega))
              go_wp2_with fail
              clear x0 hlb hx1 hx2
              go_loopw [6, 7] (fun out nx wr => ∃ (q m' : Nat) (A'' : Option Addr) (c'' : Nat), n ≤ q ∧ q ≤ xn ∧ nx = .int .i64 q ∧ out = .slice A'' m' c'' ∧ Hid ((o ++ rangeI n q).length = m') ∧ Own wr w.heap.size 3 1 (.slice A'' m' c'') (intCells (o ++ rangeI n q)) ∧ Step w wr) (fun _ nx _ => xn - (intOf nx).toNat)
              case atStart => exact ⟨n, m, A', c', Nat.le_refl _, hnx, rfl, rfl, by show _ = _; rw [rangeI_self, List.append_nil, HM.out], by rw [rangeI_self, List.append_nil]; exact HO.out, Step.of⟩
              case round =>
                obtain ⟨q, m', A'', c'', hq1, hq2, rfl, rfl, HM', hown, hst'⟩ := hrel
                have HO := hide hown; clear hown
                obtain ⟨wi, rfl⟩ : ∃ x : World, x = wr := ⟨_, rfl⟩
                have hzi := hst'.size
                by_cases hqx : q < xn
                · have hqi : (q : Int) < (xn : Int) := by omega
                  have HL : Hid ((intCells (o ++ rangeI n q)).length = m') := by show _ = _; rw [intCells_len]; exact HM'.out
                  have hmq : m' ≤ 8192 := by
                    have h1 := HM'.out
                    have h2 := HM.out
                    have h3 := HMN.out
                    rw [List.length_append, rangeI_len] at h1
                    omega
                  have HNew := hide (SlAt.one wi 1 [.int .i64 (q : Int)] 3)
                  have HOw := hide (HO.out.alloc (.cells #[.int .i64 (q : Int)] 3))
                  go_wp2_with (at_builtin; go_loud (refine wpList_append_sl rfl (.tmp 35) (.tmp 37) 68 rfl eiInt (base := w.heap.size) (xs := intCells (o ++ rangeI n q)) rfl HOw.out (int_fit _) (ys := [[.int .i64 (q : Int)]]) rfl (by simp) HNew.out (int_fit [(q : Int)]) (by rw [HL.out]; show (m' + 1) * 8 ≤ _; omega) (fut w (wi.alloc (.cells #[.int .i64 (q : Int)] 3))).size (N := m' + 1) (by rw [HL.out]; rfl) ?_; intro A5 c5 w5 hq5 hq6 hown5 hgr5 hbel5; have H5 := hide hown5; have HB5 := hide hbel5; clear hown5 hgr5 hbel5))
                  go_roundw
                  case rel =>
                    refine ⟨q + 1, m' + 1, A5, c5, by omega, by omega, by go_num, rfl, ?_, ?_, ⟨(fut w (wi.alloc (.cells #[.int .i64 (q : Int)] 3))).trans HB5.out⟩⟩
                    · show _ = _
                      rw [rangeI_succ hq1, ← List.append_assoc, List.length_append, HM'.out]; rfl
                    · rw [rangeI_succ hq1, ← List.append_assoc]
                      have := H5.out
                      simpa [intCells] using this
                  case measure => simp [intOf]; omega
                · obtain rfl : q = xn := by omega
                  have hqi : ¬ (q : Int) < (q : Int) := by omega
                  go_wp2_with fail
                  go_roundw
                  case rel => exact ⟨j + 1, q + 1, m', A'', c'', o ++ rangeI n q, by omega, by go_num, HST, by go_num, rfl, HM', HO.out, Step.of⟩
                  case measure => simp [intOf]; omega
        · obtain rfl : j = at_.length := by omega
          obtain rfl : T = (o ++ rangeI n M, 0) := by rw [← HT.out, withoutR, if_neg HNB.out, HS.out]; rfl
          go_wp2_with fail
          go_loopw [6, 7] (fun out nx wr => ∃ (q m' : Nat) (A'' : Option Addr) (c'' : Nat), n ≤ q ∧ q ≤ M ∧ nx = .int .i64 q ∧ out = .slice A'' m' c'' ∧ Hid ((o ++ rangeI n q).length = m') ∧ Own wr w.heap.size 3 1 (.slice A'' m' c'') (intCells (o ++ rangeI n q)) ∧ Step w wr) (fun _ nx _ => M - (intOf nx).toNat)
          case atStart => exact ⟨n, m, A', c', Nat.le_refl _, by omega, rfl, rfl, by show _ = _; rw [rangeI_self, List.append_nil, HM.out], by rw [rangeI_self, List.append_nil]; exact HO.out, Step.of⟩
          case round =>
            obtain ⟨q, m', A'', c'', hq1, hq2, rfl, rfl, HM', hown, hst'⟩ := hrel
            have HO := hide hown; clear hown
            obtain ⟨wi, rfl⟩ : ∃ x : World, x = wr := ⟨_, rfl⟩
            have hzi := hst'.size
            by_cases hqx : q < M
            · have hqi : (q : Int) < (M : Int) := by omega
              have HL : Hid ((intCells (o ++ rangeI n q)).length = m') := by show _ = _; rw [intCells_len]; exact HM'.out
              have hmq : m' ≤ 8192 := by
                have h1 := HM'.out
                have h2 := HM.out
                have h3 := HMN.out
                rw [List.length_append, rangeI_len] at h1
                omega
              have HNew := hide (SlAt.one wi 1 [.int .i64 (q : Int)] 3)
              have HOw := hide (HO.out.alloc (.cells #[.int .i64 (q : Int)] 3))
              go_wp2_with (at_builtin; go_loud (refine wpList_append_sl rfl (.tmp 47) (.tmp 49) 68 rfl eiInt (base := w.heap.size) (xs := intCells (o ++ rangeI n q)) rfl HOw.out (int_fit _) (ys := [[.int .i64 (q : Int)]]) rfl (by simp) HNew.out (int_fit [(q : Int)]) (by rw [HL.out]; show (m' + 1) * 8 ≤ _; omega) (fut w (wi.alloc (.cells #[.int .i64 (q : Int)] 3))).size (N := m' + 1) (by rw [HL.out]; rfl) ?_; intro A5 c5 w5 hq5 hq6 hown5 hgr5 hbel5; have H5 := hide hown5; have HB5 := hide hbel5; clear hown5 hgr5 hbel5))
              go_roundw
              case rel =>
                refine ⟨q + 1, m' + 1, A5, c5, by omega, by omega, by go_num, rfl, ?_, ?_, ⟨(fut w (wi.alloc (.cells #[.int .i64 (q : Int)] 3))).trans HB5.out⟩⟩
                · show _ = _
                  rw [rangeI_succ hq1, ← List.append_assoc, List.length_append, HM'.out]; rfl
                · rw [rangeI_succ hq1, ← List.append_assoc]
                  have := H5.out
                  simpa [intCells] using this
              case measure => simp [intOf]; omega
            · obtain rfl : q = M := by omega
              have hqi : ¬ (q : Int) < (q : Int) := by omega
              go_wp2_with fail
              go_ret2
              have HL2 : o.length + (rangeI n q).length = m' := by have := HM'.out; rw [List.length_append] at this; exact this
              exact ⟨A'', c'', by rw [HL2]; rfl, by rw [HL2]; exact HO.out, Step.of⟩
end Go.Proofs.YtnphokhehacfnaaGreatDoor

namespace Go.Proofs.YtnphokhehacfnaaGreatDoor
open Go.RowKit

theorem without_len {many : Int} {at_ : List Int} : (withoutR many at_).1.length ≤ 4096 := by
  unfold withoutR
  split
  · simp
  · rename_i hm
    split
    · rename_i st hst
      have := stW_bd (by omega) at_.length _ hst
      simp only [List.length_append, rangeI_len]
      omega
    · simp
set_option maxRecDepth 100000 in
set_option maxHeartbeats 8000000 in
theorem take_any {w1 : World} (g D T O : Nat) (t : TbA) (o : OpA) (w : World) (h : Doer w g D T O t o) (ho : OpIn w1 o) [f1 : Fut w1 w] (hf : TbFine t) (hg : g ≤ w.heap.size) :
    Calls Tryz.prog 88 #[.pointer (some ⟨D, 0, none⟩)] w fun e w' => RunR g T w (takeP t.tb o.op) e w' := by
  have HD := hide h
  have hlen := hf.rlen
  have PM := hide (fun w' [Fut w1 w'] => ppred_any o.ns o.An o.cn w' ho.prd)
  have YS := fun w' (hs : Fut w w') => yes_any (w1 := w1) g D T O t o w' h.fut ho (f1 := ⟨f1.below.trans (hs.below.mono f1.below.size)⟩) hf
  obtain ⟨R, hR⟩ : ∃ R, takeP t.tb o.op = R := ⟨_, rfl⟩
  have HR := hide hR
  rw [hR]
  clear hR h
  obtain ⟨d0, d1⟩ := At.z2 (HD.out.d.fut (w' := w)).at0
  have ld := (HD.out.d.fut (w' := w)).lt
  obtain ⟨t0, t1, t2, t3, t4, t5⟩ := At.z6 (HD.out.tb.fut (w' := w)).at0
  have lt_ := (HD.out.tb.fut (w' := w)).lt
  have ft_ := (HD.out.tb.fut (w' := w)).free
  obtain ⟨o0, o1, o2, o3, o4, o5, o6, o7, o8, o9, o10, o11, o12, o13, o14, o15⟩ := At.zOp (HD.out.op.fut (w' := w)).at0
  have lo := (HD.out.op.fut (w' := w)).lt
  unfold TbA.cells at *
  cases hp : predB o.ns with
  | false =>
    have HE : Hid (R = .error 9) := by show _ = _; rw [← HR.out, takeP, if_pos (show predB o.op.ns = false from hp)]
    rw [hp] at PM
    clear hp YS
    go_enter Tryz.func88, Tryz.ntmps88
    go_wp2_with (first | (go_at_call 123; (with_reducible refine (PM.out _).mono ?_); rintro e w3 ⟨rfl, hs3⟩) | (go_at_call 122; (with_reducible refine (throw_yes _ _).mono ?_); rintro e w9 ⟨rfl, h9⟩; obtain rfl := h9.symm))
    exact ⟨rfl, by rw [HE.out]; exact ⟨Mt.step hg (fut w w3), rfl⟩⟩
  | true =>
    have HP := hide hp
    rw [hp] at PM
    clear hp
    cases hy : yesP t.tb o.ns with
    | error c =>
      have HE : Hid (R = .error c) := by show _ = _; rw [← HR.out, takeP, if_neg (by rw [show predB o.op.ns = true from HP.out]; simp), show yesP t.tb o.op.ns = .error c from hy]
      rw [hy] at YS
      have YS := hide YS
      clear hy
      go_enter Tryz.func88, Tryz.ntmps88
      go_upto_region 1 with (first | (go_at_call 123; (with_reducible refine (PM.out _).mono ?_); rintro e w3 ⟨rfl, hs3⟩) | (go_at_call 122; (with_reducible refine (throw_no _ _).mono ?_); rintro e w9 ⟨rfl, h9⟩; obtain rfl := h9.symm))
      obtain ⟨wp, hwp⟩ : ∃ x : World, x = w3 := ⟨_, rfl⟩
      rw [← hwp] at hs3 ⊢
      clear hwp d0 d1 ld t0 t1 t2 t3 t4 t5 lt_ ft_ o0 o1 o2 o3 o4 o5 o6 o7 o8 o9 o10 o11 o12 o13 o14 o15 lo
      obtain ⟨d0, d1⟩ := At.z2 (HD.out.d.fut (w' := wp)).at0
      have ld := (HD.out.d.fut (w' := wp)).lt
      obtain ⟨t0, t1, t2, t3, t4, t5⟩ := At.z6 (HD.out.tb.fut (w' := wp)).at0
      have lt_ := (HD.out.tb.fut (w' := wp)).lt
      have ft_ := (HD.out.tb.fut (w' := wp)).free
      obtain ⟨o0, o1, o2, o3, o4, o5, o6, o7, o8, o9, o10, o11, o12, o13, o14, o15⟩ := At.zOp (HD.out.op.fut (w' := wp)).at0
      have lo := (HD.out.op.fut (w' := wp)).lt
      refine wp_region_held_drew (S := (fun w' => Step wp w' ∧ (∀ b o, b < wp.heap.size → w'.cell? ⟨b, o, none⟩ = wp.cell? ⟨b, o, none⟩))) (by kernel_rfl) (by (try dsimp only); (first | exact ⟨hS1, hS2⟩ | exact ⟨Step.of, (bcell (fut _ _)).1⟩)) (fun hHeld => ?_)
      refine wT 0 15 (by assumption) ?_
      refine wT 8 23 (by assumption) ?_
      refine wT 1 16 (by assumption) ?_
      refine wT 2 17 (by assumption) ?_
      refine wT 3 18 (by assumption) ?_
      refine wT 4 19 (by assumption) ?_
      refine wT 5 20 (by assumption) ?_
      refine wT 6 21 (by assumption) ?_
      refine wT 7 22 (by assumption) ?_
      refine wpAnyH_ready (rs := [9]) (by kernel_rfl) (by simp) ?_
      refine AllReadyH.cons (o := ⟨some 24, _, _, _, _, _⟩) rfl (fun K hK => ?_) AllReadyH.nil
      obtain ⟨hS1, hS2⟩ := hHeld
      go_simp
      (go_at_call 124; (with_reducible refine (YS.out _ inferInstance).mono ?_); rintro e w4 ⟨rfl, hs4⟩)
      exact ⟨rfl, by rw [HE.out]; exact ⟨(Mt.step hg (fut w w4)), rfl⟩⟩
    | ok l =>
      have HE : Hid (R = .ok ⟨t.s, t.sid, t.fs, (takeR (t.rs.map RowA.vs) (withoutR t.rs.length l).1).1⟩) := by
        show _ = _
        rw [← HR.out, takeP, if_neg (by rw [show predB o.op.ns = true from HP.out]; simp), show yesP t.tb o.op.ns = .ok l from hy]
        simp [TbA.tb]
      have HLL : Hid (l.length ≤ t.rs.length) := by
        show _ ≤ _
        unfold yesP at hy
        split at hy
        · cases hy
        · injection hy with hy
          rw [← hy]
          have := yesTo_bd o.ns t.s (t.rs.map RowA.vs)
          rw [List.length_map] at this
          exact this
      rw [hy] at YS
      have YS := hide YS
      clear hy
      have WO : Hid (∀ {A : Option Addr} {c B : Nat} (w' : World) (_ : Own w' B 3 1 (.slice A l.length c) (intCells l)), Calls Tryz.prog 140 #[.int .i64 t.rs.length, .slice A l.length c] w' fun e w'' => ∃ (A' : Option Addr) (c' : Nat), e = .returned (.tuple #[.slice A' (withoutR t.rs.length l).1.length c', .int .i64 (withoutR t.rs.length l).2]) ∧ Own w'' w'.heap.size 3 1 (.slice A' (withoutR t.rs.length l).1.length c') (intCells (withoutR t.rs.length l).1) ∧ Step w' w'') := fun {A c B} w' hO => pwithout_any (w0 := w') t.rs.length l A c w' (hO.sl (int_fit _).len) (by have := HLL.out; omega)
      have HWL : Hid ((withoutR t.rs.length l).1.length ≤ 4096) := by show _ ≤ _; have := without_len (many := (t.rs.length : Int)) (at_ := l); omega
      go_enter Tryz.func88, Tryz.ntmps88
      go_upto_region 1 with (first | (go_at_call 123; (with_reducible refine (PM.out _).mono ?_); rintro e w3 ⟨rfl, hs3⟩) | (go_at_call 122; (with_reducible refine (throw_no _ _).mono ?_); rintro e w9 ⟨rfl, h9⟩; obtain rfl := h9.symm))
      obtain ⟨wp, hwp⟩ : ∃ x : World, x = w3 := ⟨_, rfl⟩
      rw [← hwp] at hs3 ⊢
      clear hwp d0 d1 ld t0 t1 t2 t3 t4 t5 lt_ ft_ o0 o1 o2 o3 o4 o5 o6 o7 o8 o9 o10 o11 o12 o13 o14 o15 lo
      obtain ⟨d0, d1⟩ := At.z2 (HD.out.d.fut (w' := wp)).at0
      have ld := (HD.out.d.fut (w' := wp)).lt
      obtain ⟨t0, t1, t2, t3, t4, t5⟩ := At.z6 (HD.out.tb.fut (w' := wp)).at0
      have lt_ := (HD.out.tb.fut (w' := wp)).lt
      have ft_ := (HD.out.tb.fut (w' := wp)).free
      obtain ⟨o0, o1, o2, o3, o4, o5, o6, o7, o8, o9, o10, o11, o12, o13, o14, o15⟩ := At.zOp (HD.out.op.fut (w' := wp)).at0
      have lo := (HD.out.op.fut (w' := wp)).lt
      refine wp_region_held_drew (S := (fun w' => Step wp w' ∧ (∀ b o, b < wp.heap.size → w'.cell? ⟨b, o, none⟩ = wp.cell? ⟨b, o, none⟩))) (by kernel_rfl) (by (try dsimp only); (first | exact ⟨hS1, hS2⟩ | exact ⟨Step.of, (bcell (fut _ _)).1⟩)) (fun hHeld => ?_)
      refine wT 0 15 (by assumption) ?_
      refine wT 8 23 (by assumption) ?_
      refine wT 1 16 (by assumption) ?_
      refine wT 2 17 (by assumption) ?_
      refine wT 3 18 (by assumption) ?_
      refine wT 4 19 (by assumption) ?_
      refine wT 5 20 (by assumption) ?_
      refine wT 6 21 (by assumption) ?_
      refine wT 7 22 (by assumption) ?_
      refine wpAnyH_ready (rs := [9]) (by kernel_rfl) (by simp) ?_
      refine AllReadyH.cons (o := ⟨some 24, _, _, _, _, _⟩) rfl (fun K hK => ?_) AllReadyH.nil
      obtain ⟨hS1, hS2⟩ := hHeld
      go_simp
      (go_at_call 124; (with_reducible refine (YS.out _ inferInstance).mono ?_); rintro e w4 ⟨⟨A4, c4, rfl, ho4⟩, hs4⟩; have HO4 := hide ho4; clear ho4)
      refine hK.out _ _ (by (try dsimp only); (first | exact ⟨hS1, hS2⟩ | exact ⟨Step.of, (bcell (fut _ _)).1⟩)) (fun hHeld => ?_)
      clear hK K
      (try simp only [Act.put, List.setIfInBounds_toArray, List.set_cons_zero, List.set_cons_succ])
      refine wpAnyH_ready (rs := [10]) (by kernel_rfl) (by simp) ?_
      refine AllReadyH.cons (o := ⟨some 25, _, _, _, _, _⟩) rfl (fun K hK => ?_) AllReadyH.nil
      obtain ⟨hS1, hS2⟩ := hHeld
      go_simp
      (go_at_call 140; (with_reducible refine (WO.out _ HO4.out).mono ?_); rintro e w5 ⟨A5, c5, rfl, ho5, hs5⟩; have HO5 := hide ho5; clear ho5)
      refine hK.out _ _ (by (try dsimp only); (first | exact ⟨hS1, hS2⟩ | exact ⟨Step.of, (bcell (fut _ _)).1⟩)) (fun hHeld => ?_)
      clear hK K
      (try simp only [Act.put, List.setIfInBounds_toArray, List.set_cons_zero, List.set_cons_succ])
      refine wT 11 14 (by assumption) ?_
      refine wT 12 26 (by assumption) ?_
      refine wT 13 27 (by assumption) ?_
      refine wT 14 2 (by assumption) ?_
      refine wT 15 3 (by assumption) ?_
      refine wpAnyH_done (by kernel_rfl) ?_ _
      clear d0 d1 ld t0 t1 t2 t3 t4 t5 lt_ ft_ o0 o1 o2 o3 o4 o5 o6 o7 o8 o9 o10 o11 o12 o13 o14 o15 lo; 
      obtain ⟨wq, hwq⟩ : ∃ x : World, x = w5 := ⟨_, rfl⟩
      rw [← hwq] at hs5 HO5 ⊢
      clear hwq
      go_upto_region 2 with fail
      have hqs := (fut w wq).size
      have TK := hide (fun (w' : World) [Fut wq w'] => ptake_any (w0 := wq) (w1 := wq) t.rs t.Ar t.cr (withoutR t.rs.length l).1 A5 c5 w' ((HD.out.own.fut (w' := wq)).r.tin hf).rows (HO5.out.sl (int_fit _).len) (by have := HWL.out; omega))
      obtain ⟨d0, d1⟩ := At.z2 (HD.out.d.fut (w' := wq)).at0
      have ld := (HD.out.d.fut (w' := wq)).lt
      obtain ⟨t0, t1, t2, t3, t4, t5⟩ := At.z6 (HD.out.tb.fut (w' := wq)).at0
      have lt_ := (HD.out.tb.fut (w' := wq)).lt
      have ft_ := (HD.out.tb.fut (w' := wq)).free
      obtain ⟨o0, o1, o2, o3, o4, o5, o6, o7, o8, o9, o10, o11, o12, o13, o14, o15⟩ := At.zOp (HD.out.op.fut (w' := wq)).at0
      have lo := (HD.out.op.fut (w' := wq)).lt
      refine wp_region_held_drew (S := (fun w' : World => True ∧ True)) (by kernel_rfl) (by (try dsimp only); (exact ⟨trivial, trivial⟩)) (fun hHeld => ?_)
      refine wT 0 29 (by assumption) ?_
      refine wT 4 33 (by assumption) ?_
      refine wT 11 40 (by assumption) ?_
      refine wT 1 30 (by assumption) ?_
      refine wT 5 34 (by assumption) ?_
      refine wT 2 31 (by assumption) ?_
      refine wT 6 35 (by assumption) ?_
      refine wpAnyH_ready (rs := [3, 7]) (by kernel_rfl) (by simp) ?_
      refine AllReadyH.cons (o := ⟨some 32, _, _, _, _, _⟩) rfl (fun K hK => ?_) (AllReadyH.cons (o := ⟨some 36, _, _, _, _, _⟩) rfl (fun K hK => ?_) AllReadyH.nil)
      · go_simp
        refine hK.out _ _ (by (try dsimp only); (exact ⟨trivial, trivial⟩)) (fun hHeld => ?_)
        clear hK K
        (try simp only [Act.put, List.setIfInBounds_toArray, List.set_cons_zero, List.set_cons_succ])
        refine wpAnyH_ready (rs := [7]) (by kernel_rfl) (by simp) ?_
        refine AllReadyH.cons (o := ⟨some 36, _, _, _, _, _⟩) rfl (fun K hK => ?_) AllReadyH.nil
        go_simp
        refine hK.out _ _ (by (try dsimp only); (exact ⟨trivial, trivial⟩)) (fun hHeld => ?_)
        clear hK K
        (try simp only [Act.put, List.setIfInBounds_toArray, List.set_cons_zero, List.set_cons_succ])
        refine wT 8 37 (by assumption) ?_
        refine wT 9 38 (by assumption) ?_
        refine wpAnyH_ready (rs := [10]) (by kernel_rfl) (by simp) ?_
        refine AllReadyH.cons (o := ⟨some 39, _, _, _, _, _⟩) rfl (fun K hK => ?_) AllReadyH.nil
        go_simp
        refine hK.out _ _ (by (try dsimp only); (exact ⟨trivial, trivial⟩)) (fun hHeld => ?_)
        clear hK K
        (try simp only [Act.put, List.setIfInBounds_toArray, List.set_cons_zero, List.set_cons_succ])
        refine wpAnyH_ready (rs := [12]) (by kernel_rfl) (by simp) ?_
        refine AllReadyH.cons (o := ⟨some 41, _, _, _, _, _⟩) rfl (fun K hK => ?_) AllReadyH.nil
        obtain ⟨hS1, hS2⟩ := hHeld
        go_simp
        (go_at_call 126; (with_reducible refine (TK.out _).mono ?_); rintro e w6 ⟨A6, c6, os, hos, rfl, ho6, hs6⟩; have HO6 := hide ho6; have HOS := hide hos; clear ho6 hos; clear d0 d1 ld t0 t1 t2 t3 t4 t5 lt_ ft_ o0 o1 o2 o3 o4 o5 o6 o7 o8 o9 o10 o11 o12 o13 o14 o15 lo; obtain ⟨d0, d1⟩ := At.z2 (HD.out.d.fut (w' := w6)).at0; have ld := (HD.out.d.fut (w' := w6)).lt; obtain ⟨t0, t1, t2, t3, t4, t5⟩ := At.z6 (HD.out.tb.fut (w' := w6)).at0; have lt_ := (HD.out.tb.fut (w' := w6)).lt; have ft_ := (HD.out.tb.fut (w' := w6)).free; obtain ⟨o0, o1, o2, o3, o4, o5, o6, o7, o8, o9, o10, o11, o12, o13, o14, o15⟩ := At.zOp (HD.out.op.fut (w' := w6)).at0; have lo := (HD.out.op.fut (w' := w6)).lt)
        refine hK.out _ _ (by (try dsimp only); (exact ⟨trivial, trivial⟩)) (fun hHeld => ?_)
        clear hK K
        (try simp only [Act.put, List.setIfInBounds_toArray, List.set_cons_zero, List.set_cons_succ])
        refine wT 13 28 (by assumption) ?_
        refine wT 14 42 (by assumption) ?_
        refine wT 15 43 (by assumption) ?_
        refine wT 16 44 (by assumption) ?_
        refine wT 17 45 (by assumption) ?_
        refine wpAnyH_ready (rs := [18]) (by kernel_rfl) (by simp) ?_
        refine AllReadyH.cons (o := ⟨none, _, _, _, _, _⟩) rfl (fun K hK => ?_) AllReadyH.nil
        go_simp
        refine hK.out _ _ (by (try dsimp only); (exact ⟨trivial, trivial⟩)) (fun hHeld => ?_)
        clear hK K
        (try simp only [Act.put, List.setIfInBounds_toArray, List.set_cons_zero, List.set_cons_succ])
        refine wpAnyH_done (by kernel_rfl) ?_ _
        clear d0 d1 ld t0 t1 t2 t3 t4 t5 lt_ ft_ o0 o1 o2 o3 o4 o5 o6 o7 o8 o9 o10 o11 o12 o13 o14 o15 lo
        go_wp2_with fail
        go_end0
        have hq6 : g ≤ w6.heap.size := by have := (fut w w6).size; omega
        have ho := (TbOwnR.mk (HD.out.own.cols.fut (w' := w6)) (HD.out.own.flds.fut (w' := w6)) ⟨HO6.out.out.more (by show g ≤ wq.heap.size; omega), fun r hr => (HO6.out.rows r hr).more (by show g ≤ wq.heap.size; omega)⟩ : TbOwnR w6 g ⟨t.s, t.As, t.cs, t.sid, t.fs, t.Af, t.cf, os, A6, c6⟩)
        rw [HE.out]
        exact ⟨(Mt.step hg (fut w w6)).trans (Mt.cell w6 HD.out.gT 5 _), rfl, ⟨t.s, t.As, t.cs, t.sid, t.fs, t.Af, t.cf, os, A6, c6⟩, by simp only [TbA.tb]; rw [HOS.out], (HD.out.tb.fut (w' := w6)).set_ 5 (.slice A6 os.length c6), ho.setT (HD.out.tb.fut (w' := w6)) 5 _⟩
      · go_simp
        refine hK.out _ _ (by (try dsimp only); (exact ⟨trivial, trivial⟩)) (fun hHeld => ?_)
        clear hK K
        (try simp only [Act.put, List.setIfInBounds_toArray, List.set_cons_zero, List.set_cons_succ])
        refine wT 8 37 (by assumption) ?_
        refine wT 9 38 (by assumption) ?_
        refine wpAnyH_ready (rs := [3, 10]) (by kernel_rfl) (by simp) ?_
        refine AllReadyH.cons (o := ⟨some 32, _, _, _, _, _⟩) rfl (fun K hK => ?_) (AllReadyH.cons (o := ⟨some 39, _, _, _, _, _⟩) rfl (fun K hK => ?_) AllReadyH.nil)
        · go_simp
          refine hK.out _ _ (by (try dsimp only); (exact ⟨trivial, trivial⟩)) (fun hHeld => ?_)
          clear hK K
          (try simp only [Act.put, List.setIfInBounds_toArray, List.set_cons_zero, List.set_cons_succ])
          refine wpAnyH_ready (rs := [10]) (by kernel_rfl) (by simp) ?_
          refine AllReadyH.cons (o := ⟨some 39, _, _, _, _, _⟩) rfl (fun K hK => ?_) AllReadyH.nil
          go_simp
          refine hK.out _ _ (by (try dsimp only); (exact ⟨trivial, trivial⟩)) (fun hHeld => ?_)
          clear hK K
          (try simp only [Act.put, List.setIfInBounds_toArray, List.set_cons_zero, List.set_cons_succ])
          refine wpAnyH_ready (rs := [12]) (by kernel_rfl) (by simp) ?_
          refine AllReadyH.cons (o := ⟨some 41, _, _, _, _, _⟩) rfl (fun K hK => ?_) AllReadyH.nil
          obtain ⟨hS1, hS2⟩ := hHeld
          go_simp
          (go_at_call 126; (with_reducible refine (TK.out _).mono ?_); rintro e w6 ⟨A6, c6, os, hos, rfl, ho6, hs6⟩; have HO6 := hide ho6; have HOS := hide hos; clear ho6 hos; clear d0 d1 ld t0 t1 t2 t3 t4 t5 lt_ ft_ o0 o1 o2 o3 o4 o5 o6 o7 o8 o9 o10 o11 o12 o13 o14 o15 lo; obtain ⟨d0, d1⟩ := At.z2 (HD.out.d.fut (w' := w6)).at0; have ld := (HD.out.d.fut (w' := w6)).lt; obtain ⟨t0, t1, t2, t3, t4, t5⟩ := At.z6 (HD.out.tb.fut (w' := w6)).at0; have lt_ := (HD.out.tb.fut (w' := w6)).lt; have ft_ := (HD.out.tb.fut (w' := w6)).free; obtain ⟨o0, o1, o2, o3, o4, o5, o6, o7, o8, o9, o10, o11, o12, o13, o14, o15⟩ := At.zOp (HD.out.op.fut (w' := w6)).at0; have lo := (HD.out.op.fut (w' := w6)).lt)
          refine hK.out _ _ (by (try dsimp only); (exact ⟨trivial, trivial⟩)) (fun hHeld => ?_)
          clear hK K
          (try simp only [Act.put, List.setIfInBounds_toArray, List.set_cons_zero, List.set_cons_succ])
          refine wT 13 28 (by assumption) ?_
          refine wT 14 42 (by assumption) ?_
          refine wT 15 43 (by assumption) ?_
          refine wT 16 44 (by assumption) ?_
          refine wT 17 45 (by assumption) ?_
          refine wpAnyH_ready (rs := [18]) (by kernel_rfl) (by simp) ?_
          refine AllReadyH.cons (o := ⟨none, _, _, _, _, _⟩) rfl (fun K hK => ?_) AllReadyH.nil
          go_simp
          refine hK.out _ _ (by (try dsimp only); (exact ⟨trivial, trivial⟩)) (fun hHeld => ?_)
          clear hK K
          (try simp only [Act.put, List.setIfInBounds_toArray, List.set_cons_zero, List.set_cons_succ])
          refine wpAnyH_done (by kernel_rfl) ?_ _
          clear d0 d1 ld t0 t1 t2 t3 t4 t5 lt_ ft_ o0 o1 o2 o3 o4 o5 o6 o7 o8 o9 o10 o11 o12 o13 o14 o15 lo
          go_wp2_with fail
          go_end0
          have hq6 : g ≤ w6.heap.size := by have := (fut w w6).size; omega
          have ho := (TbOwnR.mk (HD.out.own.cols.fut (w' := w6)) (HD.out.own.flds.fut (w' := w6)) ⟨HO6.out.out.more (by show g ≤ wq.heap.size; omega), fun r hr => (HO6.out.rows r hr).more (by show g ≤ wq.heap.size; omega)⟩ : TbOwnR w6 g ⟨t.s, t.As, t.cs, t.sid, t.fs, t.Af, t.cf, os, A6, c6⟩)
          rw [HE.out]
          exact ⟨(Mt.step hg (fut w w6)).trans (Mt.cell w6 HD.out.gT 5 _), rfl, ⟨t.s, t.As, t.cs, t.sid, t.fs, t.Af, t.cf, os, A6, c6⟩, by simp only [TbA.tb]; rw [HOS.out], (HD.out.tb.fut (w' := w6)).set_ 5 (.slice A6 os.length c6), ho.setT (HD.out.tb.fut (w' := w6)) 5 _⟩
        · go_simp
          refine hK.out _ _ (by (try dsimp only); (exact ⟨trivial, trivial⟩)) (fun hHeld => ?_)
          clear hK K
          (try simp only [Act.put, List.setIfInBounds_toArray, List.set_cons_zero, List.set_cons_succ])
          refine wpAnyH_ready (rs := [3, 12]) (by kernel_rfl) (by simp) ?_
          refine AllReadyH.cons (o := ⟨some 32, _, _, _, _, _⟩) rfl (fun K hK => ?_) (AllReadyH.cons (o := ⟨some 41, _, _, _, _, _⟩) rfl (fun K hK => ?_) AllReadyH.nil)
          · go_simp
            refine hK.out _ _ (by (try dsimp only); (exact ⟨trivial, trivial⟩)) (fun hHeld => ?_)
            clear hK K
            (try simp only [Act.put, List.setIfInBounds_toArray, List.set_cons_zero, List.set_cons_succ])
            refine wpAnyH_ready (rs := [12]) (by kernel_rfl) (by simp) ?_
            refine AllReadyH.cons (o := ⟨some 41, _, _, _, _, _⟩) rfl (fun K hK => ?_) AllReadyH.nil
            obtain ⟨hS1, hS2⟩ := hHeld
            go_simp
            (go_at_call 126; (with_reducible refine (TK.out _).mono ?_); rintro e w6 ⟨A6, c6, os, hos, rfl, ho6, hs6⟩; have HO6 := hide ho6; have HOS := hide hos; clear ho6 hos; clear d0 d1 ld t0 t1 t2 t3 t4 t5 lt_ ft_ o0 o1 o2 o3 o4 o5 o6 o7 o8 o9 o10 o11 o12 o13 o14 o15 lo; obtain ⟨d0, d1⟩ := At.z2 (HD.out.d.fut (w' := w6)).at0; have ld := (HD.out.d.fut (w' := w6)).lt; obtain ⟨t0, t1, t2, t3, t4, t5⟩ := At.z6 (HD.out.tb.fut (w' := w6)).at0; have lt_ := (HD.out.tb.fut (w' := w6)).lt; have ft_ := (HD.out.tb.fut (w' := w6)).free; obtain ⟨o0, o1, o2, o3, o4, o5, o6, o7, o8, o9, o10, o11, o12, o13, o14, o15⟩ := At.zOp (HD.out.op.fut (w' := w6)).at0; have lo := (HD.out.op.fut (w' := w6)).lt)
            refine hK.out _ _ (by (try dsimp only); (exact ⟨trivial, trivial⟩)) (fun hHeld => ?_)
            clear hK K
            (try simp only [Act.put, List.setIfInBounds_toArray, List.set_cons_zero, List.set_cons_succ])
            refine wT 13 28 (by assumption) ?_
            refine wT 14 42 (by assumption) ?_
            refine wT 15 43 (by assumption) ?_
            refine wT 16 44 (by assumption) ?_
            refine wT 17 45 (by assumption) ?_
            refine wpAnyH_ready (rs := [18]) (by kernel_rfl) (by simp) ?_
            refine AllReadyH.cons (o := ⟨none, _, _, _, _, _⟩) rfl (fun K hK => ?_) AllReadyH.nil
            go_simp
            refine hK.out _ _ (by (try dsimp only); (exact ⟨trivial, trivial⟩)) (fun hHeld => ?_)
            clear hK K
            (try simp only [Act.put, List.setIfInBounds_toArray, List.set_cons_zero, List.set_cons_succ])
            refine wpAnyH_done (by kernel_rfl) ?_ _
            clear d0 d1 ld t0 t1 t2 t3 t4 t5 lt_ ft_ o0 o1 o2 o3 o4 o5 o6 o7 o8 o9 o10 o11 o12 o13 o14 o15 lo
            go_wp2_with fail
            go_end0
            have hq6 : g ≤ w6.heap.size := by have := (fut w w6).size; omega
            have ho := (TbOwnR.mk (HD.out.own.cols.fut (w' := w6)) (HD.out.own.flds.fut (w' := w6)) ⟨HO6.out.out.more (by show g ≤ wq.heap.size; omega), fun r hr => (HO6.out.rows r hr).more (by show g ≤ wq.heap.size; omega)⟩ : TbOwnR w6 g ⟨t.s, t.As, t.cs, t.sid, t.fs, t.Af, t.cf, os, A6, c6⟩)
            rw [HE.out]
            exact ⟨(Mt.step hg (fut w w6)).trans (Mt.cell w6 HD.out.gT 5 _), rfl, ⟨t.s, t.As, t.cs, t.sid, t.fs, t.Af, t.cf, os, A6, c6⟩, by simp only [TbA.tb]; rw [HOS.out], (HD.out.tb.fut (w' := w6)).set_ 5 (.slice A6 os.length c6), ho.setT (HD.out.tb.fut (w' := w6)) 5 _⟩
          · obtain ⟨hS1, hS2⟩ := hHeld
            go_simp
            (go_at_call 126; (with_reducible refine (TK.out _).mono ?_); rintro e w6 ⟨A6, c6, os, hos, rfl, ho6, hs6⟩; have HO6 := hide ho6; have HOS := hide hos; clear ho6 hos; clear d0 d1 ld t0 t1 t2 t3 t4 t5 lt_ ft_ o0 o1 o2 o3 o4 o5 o6 o7 o8 o9 o10 o11 o12 o13 o14 o15 lo; obtain ⟨d0, d1⟩ := At.z2 (HD.out.d.fut (w' := w6)).at0; have ld := (HD.out.d.fut (w' := w6)).lt; obtain ⟨t0, t1, t2, t3, t4, t5⟩ := At.z6 (HD.out.tb.fut (w' := w6)).at0; have lt_ := (HD.out.tb.fut (w' := w6)).lt; have ft_ := (HD.out.tb.fut (w' := w6)).free; obtain ⟨o0, o1, o2, o3, o4, o5, o6, o7, o8, o9, o10, o11, o12, o13, o14, o15⟩ := At.zOp (HD.out.op.fut (w' := w6)).at0; have lo := (HD.out.op.fut (w' := w6)).lt)
            refine hK.out _ _ (by (try dsimp only); (exact ⟨trivial, trivial⟩)) (fun hHeld => ?_)
            clear hK K
            (try simp only [Act.put, List.setIfInBounds_toArray, List.set_cons_zero, List.set_cons_succ])
            refine wT 13 28 (by assumption) ?_
            refine wT 14 42 (by assumption) ?_
            refine wT 15 43 (by assumption) ?_
            refine wpAnyH_ready (rs := [3]) (by kernel_rfl) (by simp) ?_
            refine AllReadyH.cons (o := ⟨some 32, _, _, _, _, _⟩) rfl (fun K hK => ?_) AllReadyH.nil
            go_simp
            refine hK.out _ _ (by (try dsimp only); (exact ⟨trivial, trivial⟩)) (fun hHeld => ?_)
            clear hK K
            (try simp only [Act.put, List.setIfInBounds_toArray, List.set_cons_zero, List.set_cons_succ])
            refine wT 16 44 (by assumption) ?_
            refine wT 17 45 (by assumption) ?_
            refine wpAnyH_ready (rs := [18]) (by kernel_rfl) (by simp) ?_
            refine AllReadyH.cons (o := ⟨none, _, _, _, _, _⟩) rfl (fun K hK => ?_) AllReadyH.nil
            go_simp
            refine hK.out _ _ (by (try dsimp only); (exact ⟨trivial, trivial⟩)) (fun hHeld => ?_)
            clear hK K
            (try simp only [Act.put, List.setIfInBounds_toArray, List.set_cons_zero, List.set_cons_succ])
            refine wpAnyH_done (by kernel_rfl) ?_ _
            clear d0 d1 ld t0 t1 t2 t3 t4 t5 lt_ ft_ o0 o1 o2 o3 o4 o5 o6 o7 o8 o9 o10 o11 o12 o13 o14 o15 lo
            go_wp2_with fail
            go_end0
            have hq6 : g ≤ w6.heap.size := by have := (fut w w6).size; omega
            have ho := (TbOwnR.mk (HD.out.own.cols.fut (w' := w6)) (HD.out.own.flds.fut (w' := w6)) ⟨HO6.out.out.more (by show g ≤ wq.heap.size; omega), fun r hr => (HO6.out.rows r hr).more (by show g ≤ wq.heap.size; omega)⟩ : TbOwnR w6 g ⟨t.s, t.As, t.cs, t.sid, t.fs, t.Af, t.cf, os, A6, c6⟩)
            rw [HE.out]
            exact ⟨(Mt.step hg (fut w w6)).trans (Mt.cell w6 HD.out.gT 5 _), rfl, ⟨t.s, t.As, t.cs, t.sid, t.fs, t.Af, t.cf, os, A6, c6⟩, by simp only [TbA.tb]; rw [HOS.out], (HD.out.tb.fut (w' := w6)).set_ 5 (.slice A6 os.length c6), ho.setT (HD.out.tb.fut (w' := w6)) 5 _⟩
end Go.Proofs.YtnphokhehacfnaaGreatDoor

namespace Go.Proofs.YtnphokhehacfnaaGreatDoor
open Go.RowKit

set_option maxRecDepth 100000 in
set_option maxHeartbeats 4000000 in
theorem run_del {w1 : World} (g D T O : Nat) (t : TbA) (o : OpA) (w : World) (h : Doer w g D T O t o) (ho : OpIn w1 o) [f1 : Fut w1 w] (hf : TbFine t) (hg : g ≤ w.heap.size) (hk : o.kind = 1) :
    Calls Tryz.prog 44 #[.pointer (some ⟨D, 0, none⟩)] w fun e w' => RunR g T w (takeP t.tb o.op) e w' := by
  have CC := take_any g D T O t o w h ho hf hg
  have HD := hide h
  obtain ⟨d0, d1⟩ := At.z2 (HD.out.d.fut (w' := w)).at0
  have ld := (HD.out.d.fut (w' := w)).lt
  obtain ⟨t0, t1, t2, t3, t4, t5⟩ := At.z6 (HD.out.tb.fut (w' := w)).at0
  have lt_ := (HD.out.tb.fut (w' := w)).lt
  have ft_ := (HD.out.tb.fut (w' := w)).free
  obtain ⟨o0, o1, o2, o3, o4, o5, o6, o7, o8, o9, o10, o11, o12, o13, o14, o15⟩ := At.zOp (HD.out.op.fut (w' := w)).at0
  have lo := (HD.out.op.fut (w' := w)).lt
  unfold TbA.cells at *
  rw [hk] at o0
  clear hk
  cases hR : takeP t.tb o.op with
  | error c =>
    rw [hR] at CC
    have CC := hide CC
    clear hR
    go_enter Tryz.func44, Tryz.ntmps44
    go_wp2_with (go_at_call 88; (with_reducible refine CC.out.mono ?_); rintro e w3 ⟨hmt, rfl⟩; have HMT := hide hmt; clear hmt)
    exact ⟨rfl, HMT.out, rfl⟩
  | ok u =>
    rw [hR] at CC
    have CC := hide CC
    clear hR
    go_enter Tryz.func44, Tryz.ntmps44
    go_wp2_with (go_at_call 88; (with_reducible refine CC.out.mono ?_); rintro e w3 ⟨hmt, rfl, t2, ht2, hb2, ho2⟩; have HMT := hide hmt; have HT2 := hide ht2; have HB2 := hide hb2; have HO2 := hide ho2; clear hmt ht2 hb2 ho2)
    go_end0
    exact ⟨HMT.out, rfl, t2, HT2.out, HB2.out, HO2.out⟩
set_option maxRecDepth 100000 in
set_option maxHeartbeats 4000000 in
theorem run_mark {w1 : World} (g D T O : Nat) (t : TbA) (o : OpA) (w : World) (h : Doer w g D T O t o) (ho : OpIn w1 o) [f1 : Fut w1 w] (hf : TbFine t) (hg : g ≤ w.heap.size) (hk : o.kind = 2) :
    Calls Tryz.prog 44 #[.pointer (some ⟨D, 0, none⟩)] w fun e w' => RunR g T w (takeP t.tb o.op) e w' := by
  have CC := take_any g D T O t o w h ho hf hg
  have HD := hide h
  obtain ⟨d0, d1⟩ := At.z2 (HD.out.d.fut (w' := w)).at0
  have ld := (HD.out.d.fut (w' := w)).lt
  obtain ⟨t0, t1, t2, t3, t4, t5⟩ := At.z6 (HD.out.tb.fut (w' := w)).at0
  have lt_ := (HD.out.tb.fut (w' := w)).lt
  have ft_ := (HD.out.tb.fut (w' := w)).free
  obtain ⟨o0, o1, o2, o3, o4, o5, o6, o7, o8, o9, o10, o11, o12, o13, o14, o15⟩ := At.zOp (HD.out.op.fut (w' := w)).at0
  have lo := (HD.out.op.fut (w' := w)).lt
  unfold TbA.cells at *
  rw [hk] at o0
  clear hk
  cases hR : takeP t.tb o.op with
  | error c =>
    rw [hR] at CC
    have CC := hide CC
    clear hR
    go_enter Tryz.func44, Tryz.ntmps44
    go_wp2_with (go_at_call 88; (with_reducible refine CC.out.mono ?_); rintro e w3 ⟨hmt, rfl⟩; have HMT := hide hmt; clear hmt)
    exact ⟨rfl, HMT.out, rfl⟩
  | ok u =>
    rw [hR] at CC
    have CC := hide CC
    clear hR
    go_enter Tryz.func44, Tryz.ntmps44
    go_wp2_with (go_at_call 88; (with_reducible refine CC.out.mono ?_); rintro e w3 ⟨hmt, rfl, t2, ht2, hb2, ho2⟩; have HMT := hide hmt; have HT2 := hide ht2; have HB2 := hide hb2; have HO2 := hide ho2; clear hmt ht2 hb2 ho2)
    go_end0
    exact ⟨HMT.out, rfl, t2, HT2.out, HB2.out, HO2.out⟩
end Go.Proofs.YtnphokhehacfnaaGreatDoor

namespace Go.Proofs.YtnphokhehacfnaaGreatDoor
open Go.RowKit

theorem row2_clean (x : Int) : (row2 x).map clean = row2 x := rfl
theorem row2_ok (x : Int) : rowB sb25 (row2 x) = true := by kernel_rfl
theorem rows2_ok (ys : List Int) (k : Nat) : rowsOk sb25 (ys.map row2) k = true := by
  unfold rowsOk
  rw [List.all_eq_true]
  intro vs hvs
  obtain ⟨x, _, rfl⟩ := List.mem_map.1 (List.mem_of_mem_take hvs)
  exact row2_ok x
theorem sel2 {ns : List Nod} {ys : List Int} (hc : checkE ns sb25 = 0) : selR ns sb25 (ys.map row2) = (yesTo ns sb25 (ys.map row2) (ys.map row2).length, 0) := by
  rw [selR, if_neg (by omega), if_pos (rows2_ok ys _)]
theorem filt2 (p : List Val → Bool) (ys : List Int) : (ys.map row2).filter p = (ys.filter fun x => p (row2 x)).map row2 := by
  rw [List.filter_map]
  rfl
theorem clean2 (ys : List Int) : (ys.map row2).map (List.map clean) = ys.map row2 := by
  rw [List.map_map]
  exact List.map_congr_left fun x _ => row2_clean x
theorem taken2 {ns : List Nod} {ys : List Int} (hc : checkE ns sb25 = 0) : (takeR (ys.map row2) (selR ns sb25 (ys.map row2)).1).1 = (ys.filter (yesN ns)).map row2 := by
  rw [sel2 hc]
  rw [take_of (yes_bds ns sb25 (ys.map row2) _), yes_filter _ _ _ _ (Nat.le_refl _), List.take_length, filt2, clean2]
  rfl
theorem none_check : checkE [] sb25 = 0 := by kernel_rfl
end Go.Proofs.YtnphokhehacfnaaGreatDoor

namespace Go.Proofs.YtnphokhehacfnaaGreatDoor
open Go.RowKit

/-- A value of a row is written over. -/
theorem Doer.putV {w : World} {g D T O : Nat} {t : TbA} {o : OpA} (h : Doer w g D T O t o) {k j : Nat} {r : RowA} {x : Val} (hk : t.rs[k]? = some r) (hj : r.vs[j]? = some x) (hgw : g ≤ w.heap.size) :
    ∃ gV, r.A = some ⟨gV, 0, none⟩ ∧ g ≤ gV ∧ gV < w.heap.size ∧ At w gV (j * 4) x.cells ∧ (∀ o, w.frozen? ⟨gV, o, none⟩ = false) ∧ ∀ v : Val, Doer (set4 w gV (j * 4) v) g D T O (t.with_ (t.rs.set k ⟨r.A, r.cap, r.vs.set j v⟩)) o ∧ Mt g T w (set4 w gV (j * 4) v) := by
  obtain ⟨gV, hA, h1, h2, h3, h4, p⟩ := h.own.rows.putV hk hj
  have hr := h.own.rows.rows.rows r (List.mem_of_getElem? hk)
  refine ⟨gV, hA, h1, h2, h3, h4, fun v => ?_⟩
  have hg' : w.grownBy (set4 w gV (j * 4) v) (Value.slice r.A r.vs.length r.cap).ownBlock := by
    rw [ob_eq, hA]
    exact set4_grown w gV (j * 4) v
  refine ⟨⟨h.d.grown hg' (hr.ne_ h.d (by decide)), ?_, h.op.grown hg' (hr.ne_ h.op (by decide)), ⟨h.own.cols.grown_other hg' fun q hq hh => own_ne hr h.own.cols (by decide) q hh hq, h.own.ccap, h.own.flds.grown_other hg' fun q hq hh => own_ne hr h.own.flds (by decide) q hh hq, ?_⟩, h.gT⟩, Mt.row hr hg' hgw⟩
  · have := h.tb.grown hg' (hr.ne_ h.tb (by decide))
    unfold TbA.cells TbA.with_ at *
    simp only [List.length_set]
    exact this
  · have := p v
    show OwnD _ _ _ (t.rs.set k _).length _ _
    rw [List.length_set]
    exact this
theorem setRows_snoc {vss : List (List Val)} {col : Nat} {v : Val} {l : List Int} {k : Nat} {x : Int} (hx : l[k]? = some x) : setRows vss col v (l.take (k + 1)) = (setRows vss col v (l.take k)).modify x.toNat (fun vs => vs.set col v) := by
  unfold setRows
  rw [List.take_add_one, hx, List.foldl_append]
  rfl
end Go.Proofs.YtnphokhehacfnaaGreatDoor

namespace Go.Proofs.YtnphokhehacfnaaGreatDoor
open Go.RowKit

theorem yesTo_in (ns : List Nod) (s : Sch) (vss : List (List Val)) : ∀ (k : Nat) (x : Int), x ∈ yesTo ns s vss k → 0 ≤ x ∧ x < (k : Int)
  | 0, x, h => by simp [yesTo] at h
  | k + 1, x, h => by
    rw [yesTo] at h
    split at h
    · rcases List.mem_append.1 h with h | h
      · have := yesTo_in ns s vss k x h
        omega
      · simp at h
        omega
    · have := yesTo_in ns s vss k x h
      omega
theorem sel_in {ns : List Nod} {s : Sch} {vss : List (List Val)} : ∀ x ∈ (selR ns s vss).1, 0 ≤ x ∧ x < (vss.length : Int) := by
  intro x hx
  unfold selR at hx
  split at hx
  · simp at hx
  · split at hx
    · exact yesTo_in ns s vss _ x hx
    · simp at hx
theorem yesTo_bdU (ns : List Nod) (s : Sch) (vss : List (List Val)) : (selR ns s vss).1.length ≤ vss.length := by
  unfold selR
  split
  · simp
  · split
    · exact yesTo_len ns s vss _
    · simp
set_option maxRecDepth 100000 in
set_option maxHeartbeats 16000000 in
theorem update_any {w1 : World} (g D T O : Nat) (t : TbA) (o : OpA) (w : World) (h : Doer w g D T O t o) (ho : OpIn w1 o) [f1 : Fut w1 w] (hf : TbFine t) (hg : g ≤ w.heap.size) (hn12 : t.s.cols.length ≤ 12) (hn4 : t.rs.length ≤ 4096) (hrow : ∀ r ∈ t.rs, r.vs.length = t.s.cols.length) :
    Calls Tryz.prog 89 #[.pointer (some ⟨D, 0, none⟩)] w fun e w' => RunR g T w (updateP t.tb o.op) e w' := by
  have HD := hide h
  have HSC := hide (h.own.r.tin hf).sch
  have HROW := hide hrow
  have hvs : o.v.s.size ≤ 9223372036854775807 := by have := ho.val.1; omega
  have PM := hide (fun w' [Fut w1 w'] => ppred_any o.ns o.An o.cn w' ho.prd)
  have VM := hide (fun (w' : World) => value_any o.v w' hvs)
  have YS := fun w' (hs : Fut w w') => yes_any (w1 := w1) g D T O t o w' h.fut ho (f1 := ⟨f1.below.trans (hs.below.mono f1.below.size)⟩) hf
  obtain ⟨R, hR⟩ : ∃ R, updateP t.tb o.op = R := ⟨_, rfl⟩
  have HR := hide ((upd_eq t.tb o.op).symm.trans hR)
  rw [hR]
  clear hR h hrow
  obtain ⟨d0, d1⟩ := At.z2 (HD.out.d.fut (w' := w)).at0
  have ld := (HD.out.d.fut (w' := w)).lt
  obtain ⟨t0, t1, t2, t3, t4, t5⟩ := At.z6 (HD.out.tb.fut (w' := w)).at0
  have lt_ := (HD.out.tb.fut (w' := w)).lt
  have ft_ := (HD.out.tb.fut (w' := w)).free
  obtain ⟨o0, o1, o2, o3, o4, o5, o6, o7, o8, o9, o10, o11, o12, o13, o14, o15⟩ := At.zOp (HD.out.op.fut (w' := w)).at0
  have lo := (HD.out.op.fut (w' := w)).lt
  unfold TbA.cells at *
  cases hp : predB o.ns with
  | false =>
    have HE : Hid (R = .error 9) := by show _ = _; rw [← HR.out, if_pos (Or.inl (show predB o.op.ns = false from hp))]
    rw [hp] at PM
    clear hp YS
    go_enter Tryz.func89, Tryz.ntmps89
    go_wp2_with (first | (go_at_call 123; (with_reducible refine (PM.out _).mono ?_); rintro e w3 ⟨rfl, hs3⟩) | (go_at_call 122; (with_reducible refine (throw_yes _ _).mono ?_); rintro e w9 ⟨rfl, h9⟩; obtain rfl := h9.symm))
    exact ⟨rfl, by rw [HE.out]; exact ⟨Mt.step hg (fut w w3), rfl⟩⟩
  | true =>
    have HP := hide hp
    rw [hp] at PM
    clear hp
    cases hv : valueB o.v with
    | false =>
      have HE : Hid (R = .error 9) := by show _ = _; rw [← HR.out, if_pos (Or.inr (show valueB o.op.v = false from hv))]
      rw [hv] at VM
      clear hv YS
      go_enter Tryz.func89, Tryz.ntmps89
      go_wp2_with (first | (go_at_call 123; (with_reducible refine (PM.out _).mono ?_); rintro e w3 ⟨rfl, hs3⟩; clear d0 d1 ld t0 t1 t2 t3 t4 t5 lt_ ft_ o0 o1 o2 o3 o4 o5 o6 o7 o8 o9 o10 o11 o12 o13 o14 o15 lo; obtain ⟨d0, d1⟩ := At.z2 (HD.out.d.fut (w' := w3)).at0; have ld := (HD.out.d.fut (w' := w3)).lt; obtain ⟨t0, t1, t2, t3, t4, t5⟩ := At.z6 (HD.out.tb.fut (w' := w3)).at0; have lt_ := (HD.out.tb.fut (w' := w3)).lt; have ft_ := (HD.out.tb.fut (w' := w3)).free; obtain ⟨o0, o1, o2, o3, o4, o5, o6, o7, o8, o9, o10, o11, o12, o13, o14, o15⟩ := At.zOp (HD.out.op.fut (w' := w3)).at0; have lo := (HD.out.op.fut (w' := w3)).lt) | (go_at_call 138; (with_reducible refine (VM.out _).mono ?_); rintro e w4 ⟨rfl, hs4⟩) | (go_at_call 122; (with_reducible refine (throw_yes _ _).mono ?_); rintro e w9 ⟨rfl, h9⟩; obtain rfl := h9.symm))
      exact ⟨rfl, by rw [HE.out]; exact ⟨Mt.step hg (fut w w4), rfl⟩⟩
    | true =>
      have HR1 : Hid ((match yesP t.tb o.ns with | .error c => .error c | .ok l => updC t.s t.sid t.fs (t.rs.map RowA.vs) o.col o.v l) = R) := by
        show _ = _
        rw [← HR.out, if_neg (by rintro (hh | hh); (rw [show predB o.op.ns = true from HP.out] at hh; cases hh); (rw [show valueB o.op.v = true from hv] at hh; cases hh))]
        rfl
      rw [hv] at VM
      clear hv HR
      go_enter Tryz.func89, Tryz.ntmps89
      go_upto_region 1 with (first | (go_at_call 123; (with_reducible refine (PM.out _).mono ?_); rintro e w3 ⟨rfl, hs3⟩; clear d0 d1 ld t0 t1 t2 t3 t4 t5 lt_ ft_ o0 o1 o2 o3 o4 o5 o6 o7 o8 o9 o10 o11 o12 o13 o14 o15 lo; obtain ⟨d0, d1⟩ := At.z2 (HD.out.d.fut (w' := w3)).at0; have ld := (HD.out.d.fut (w' := w3)).lt; obtain ⟨t0, t1, t2, t3, t4, t5⟩ := At.z6 (HD.out.tb.fut (w' := w3)).at0; have lt_ := (HD.out.tb.fut (w' := w3)).lt; have ft_ := (HD.out.tb.fut (w' := w3)).free; obtain ⟨o0, o1, o2, o3, o4, o5, o6, o7, o8, o9, o10, o11, o12, o13, o14, o15⟩ := At.zOp (HD.out.op.fut (w' := w3)).at0; have lo := (HD.out.op.fut (w' := w3)).lt) | (go_at_call 138; (with_reducible refine (VM.out _).mono ?_); rintro e w4 ⟨rfl, hs4⟩) | (go_at_call 122; (with_reducible refine (throw_no _ _).mono ?_); rintro e w9 ⟨rfl, h9⟩; obtain rfl := h9.symm))
      clear d0 d1 ld t0 t1 t2 t3 t4 t5 lt_ ft_ o0 o1 o2 o3 o4 o5 o6 o7 o8 o9 o10 o11 o12 o13 o14 o15 lo
      obtain ⟨wp, hwp⟩ : ∃ x : World, x = w4 := ⟨_, rfl⟩
      rw [← hwp] at hs4 ⊢
      clear hwp
      obtain ⟨d0, d1⟩ := At.z2 (HD.out.d.fut (w' := wp)).at0
      have ld := (HD.out.d.fut (w' := wp)).lt
      obtain ⟨t0, t1, t2, t3, t4, t5⟩ := At.z6 (HD.out.tb.fut (w' := wp)).at0
      have lt_ := (HD.out.tb.fut (w' := wp)).lt
      have ft_ := (HD.out.tb.fut (w' := wp)).free
      obtain ⟨o0, o1, o2, o3, o4, o5, o6, o7, o8, o9, o10, o11, o12, o13, o14, o15⟩ := At.zOp (HD.out.op.fut (w' := wp)).at0
      have lo := (HD.out.op.fut (w' := wp)).lt
      cases hy : yesP t.tb o.ns with
      | error c =>
        have HE : Hid (R = .error c) := by show _ = _; rw [← HR1.out, hy]
        rw [hy] at YS
        have YS := hide YS
        clear hy
        go_wp2_with (go_at_call 124; (with_reducible refine (YS.out _ inferInstance).mono ?_); rintro e w5 ⟨rfl, hs5⟩)
        exact ⟨rfl, by rw [HE.out]; exact ⟨Mt.step hg (fut w w5), rfl⟩⟩
      | ok l =>
        have HLB : Hid ((∀ x ∈ l, 0 ≤ x ∧ x < (t.rs.length : Int)) ∧ l.length ≤ t.rs.length) := by
          show _ ∧ _
          unfold yesP at hy
          split at hy
          · cases hy
          · injection hy with hy
            subst hy
            have h1 := @sel_in o.ns t.s (t.rs.map RowA.vs)
            have h2 := yesTo_bdU o.ns t.s (t.rs.map RowA.vs)
            rw [List.length_map] at h1 h2
            exact ⟨h1, h2⟩
        have HR2 : Hid (updC t.s t.sid t.fs (t.rs.map RowA.vs) o.col o.v l = R) := by show _ = _; rw [← HR1.out, hy]
        rw [hy] at YS
        have YS := hide YS
        clear hy HR1
        go_upto_region 2 with (go_at_call 124; (with_reducible refine (YS.out _ inferInstance).mono ?_); rintro e w5 ⟨⟨A4, c4, rfl, ho4⟩, hs5⟩; have HO4 := hide ho4; clear ho4)
        clear YS
        obtain ⟨wq, hwq⟩ : ∃ x : World, x = w5 := ⟨_, rfl⟩
        rw [← hwq] at hs5 HO4 ⊢
        clear hwq d0 d1 ld t0 t1 t2 t3 t4 t5 lt_ ft_ o0 o1 o2 o3 o4 o5 o6 o7 o8 o9 o10 o11 o12 o13 o14 o15 lo
        obtain ⟨d0, d1⟩ := At.z2 (HD.out.d.fut (w' := wq)).at0
        have ld := (HD.out.d.fut (w' := wq)).lt
        obtain ⟨t0, t1, t2, t3, t4, t5⟩ := At.z6 (HD.out.tb.fut (w' := wq)).at0
        have lt_ := (HD.out.tb.fut (w' := wq)).lt
        have ft_ := (HD.out.tb.fut (w' := wq)).free
        obtain ⟨o0, o1, o2, o3, o4, o5, o6, o7, o8, o9, o10, o11, o12, o13, o14, o15⟩ := At.zOp (HD.out.op.fut (w' := wq)).at0
        have lo := (HD.out.op.fut (w' := wq)).lt
        obtain ⟨x, hx⟩ : ∃ x, idx (named o.col) t.s.cols = x := ⟨_, rfl⟩
        have FD : Hid (∀ (w' : World), Fut w w' → Calls Tryz.prog 125 #[.agg #[.int .i64 t.s.id, .slice t.As t.s.cols.length t.cs, .int .i64 t.s.next], .string o.col] w' fun e w'' => e = .returned (.int .i64 x) ∧ Step w' w'') := fun w' hq => by
          have := ((HSC.out.below hq.below).find o.col)
          rw [hx] at this
          exact this.mono fun e w'' h => ⟨h.1, ⟨h.2⟩⟩
        have HX := hide hx
        clear hx
        refine wp_region_held_drew (S := (fun w' => Step wq w' ∧ (∀ b o, b < wq.heap.size → w'.cell? ⟨b, o, none⟩ = wq.cell? ⟨b, o, none⟩))) (by kernel_rfl) (by (try dsimp only); (first | exact ⟨hS1, hS2⟩ | exact ⟨Step.of, (bcell (fut _ _)).1⟩)) (fun hHeld => ?_)
        refine wT 0 29 (by assumption) ?_
        refine wT 7 36 (by assumption) ?_
        refine wT 1 30 (by assumption) ?_
        refine wT 8 37 (by assumption) ?_
        refine wT 2 31 (by assumption) ?_
        refine wT 9 38 (by assumption) ?_
        refine wT 3 32 (by assumption) ?_
        refine wT 10 39 (by assumption) ?_
        refine wT 4 33 (by assumption) ?_
        refine wT 11 40 (by assumption) ?_
        refine wT 5 34 (by assumption) ?_
        refine wT 12 41 (by assumption) ?_
        refine wT 6 35 (by assumption) ?_
        refine wT 13 42 (by assumption) ?_
        refine wpAnyH_ready (rs := [14]) (by kernel_rfl) (by simp) ?_
        refine AllReadyH.cons (o := ⟨some 43, _, _, _, _, _⟩) rfl (fun K hK => ?_) AllReadyH.nil
        obtain ⟨hS1, hS2⟩ := hHeld
        go_simp
        (go_at_call 125; (with_reducible refine (FD.out _ inferInstance).mono ?_); rintro e w6 ⟨rfl, hs6⟩)
        refine hK.out _ _ (by (try dsimp only); (first | exact ⟨hS1, hS2⟩ | exact ⟨Step.of, (bcell (fut _ _)).1⟩)) (fun hHeld => ?_)
        clear hK K
        (try simp only [Act.put, List.setIfInBounds_toArray, List.set_cons_zero, List.set_cons_succ])
        refine wT 15 3 (by assumption) ?_
        refine wpAnyH_done (by kernel_rfl) ?_ _
        clear d0 d1 ld t0 t1 t2 t3 t4 t5 lt_ ft_ o0 o1 o2 o3 o4 o5 o6 o7 o8 o9 o10 o11 o12 o13 o14 o15 lo
        by_cases hi : x < 0
        · have HE : Hid (R = .error 5) := by show _ = _; rw [← HR2.out, updC, if_pos (by rw [HX.out]; exact hi)]
          have hxd : decide (x < 0) = true := decide_eq_true hi
          go_wp2_with (go_at_call 122; (with_reducible refine (throw_yes _ _).mono ?_); rintro e w9 ⟨rfl, h9⟩; obtain rfl := h9.symm)
          exact ⟨rfl, by rw [HE.out]; exact ⟨Mt.step hg (fut w _), rfl⟩⟩
        · obtain ⟨y1, hxl⟩ := idx_yes (p := named o.col) (l := t.s.cols) (by rw [HX.out]; omega)
          obtain ⟨xn, hxn⟩ : ∃ xn, t.s.cols.findIdx (named o.col) = xn := ⟨_, rfl⟩
          rw [hxn] at y1 hxl
          obtain rfl : x = (xn : Int) := by rw [← HX.out]; exact y1
          obtain ⟨c, hc⟩ : ∃ c, t.s.cols[xn]? = some c := ⟨_, List.getElem?_eq_getElem hxl⟩
          have HR3 : Hid ((if wholeB c.kind o.v = false then .error 5 else .ok ⟨t.s, t.sid, t.fs, setRows (t.rs.map RowA.vs) xn o.v l⟩) = R) := by
            have e : updC t.s t.sid t.fs (t.rs.map RowA.vs) o.col o.v l = (if wholeB c.kind o.v = false then .error 5 else .ok ⟨t.s, t.sid, t.fs, setRows (t.rs.map RowA.vs) xn o.v l⟩) := by
              rw [updC, if_neg (by rw [HX.out]; exact hi), hxn, List.getD_eq_getElem?_getD, hc]
              rfl
            exact e.symm.trans HR2.out
          have hxd : decide ((xn : Int) < 0) = false := decide_eq_false hi
          have hx0 : (0 : Int) ≤ (xn : Int) := by omega
          have hxi : (xn : Int) < (t.s.cols.length : Int) := by omega
          clear y1 hxn HR2
          obtain ⟨wu, hwr⟩ : ∃ x : World, x = w6 := ⟨_, rfl⟩
          rw [← hwr] at hs6 ⊢
          clear hwr
          go_upto_region 4 with (go_at_call 122; (with_reducible refine (throw_no _ _).mono ?_); rintro e w9 ⟨rfl, h9⟩; obtain rfl := h9.symm)
          obtain ⟨d0, d1⟩ := At.z2 (HD.out.d.fut (w' := wu)).at0
          have ld := (HD.out.d.fut (w' := wu)).lt
          obtain ⟨t0, t1, t2, t3, t4, t5⟩ := At.z6 (HD.out.tb.fut (w' := wu)).at0
          have lt_ := (HD.out.tb.fut (w' := wu)).lt
          have ft_ := (HD.out.tb.fut (w' := wu)).free
          obtain ⟨o0, o1, o2, o3, o4, o5, o6, o7, o8, o9, o10, o11, o12, o13, o14, o15⟩ := At.zOp (HD.out.op.fut (w' := wu)).at0
          have lo := (HD.out.op.fut (w' := wu)).lt
          obtain ⟨bc, oc, hAc, hbc, hcc_⟩ := HSC.out.at_.elem (w' := wu) inferInstance (k := xn) (by simpa using hxl)
          obtain ⟨c0, c1, c2_⟩ := At.l3 (hcc_ xn c.cells (by simp [hc]))
          have hbcW : bc < wu.heap.size := by have := (fut w wu).size; omega
          rw [hAc] at t1
          have WV := fun w' => whole_any c.kind o.v w' hvs
          clear hcc_
          cases hw : wholeB c.kind o.v with
          | false =>
            have HE : Hid (R = .error 5) := by show _ = _; rw [← HR3.out, if_pos hw]
            rw [hw] at WV
            have WV := hide WV
            clear hw
            refine wp_region_held_drew (S := (fun w' => Step wu w' ∧ (∀ b o, b < wu.heap.size → w'.cell? ⟨b, o, none⟩ = wu.cell? ⟨b, o, none⟩))) (by kernel_rfl) (by (try dsimp only); (first | exact ⟨hS1, hS2⟩ | exact ⟨Step.of, (bcell (fut _ _)).1⟩)) (fun hHeld => ?_)
            refine wT 0 47 (by assumption) ?_
            refine wT 8 55 (by assumption) ?_
            refine wT 12 59 (by assumption) ?_
            refine wT 1 48 (by assumption) ?_
            refine wT 13 60 (by assumption) ?_
            refine wT 2 49 (by assumption) ?_
            refine wT 14 61 (by assumption) ?_
            refine wT 3 50 (by assumption) ?_
            refine wT 15 62 (by assumption) ?_
            refine wT 4 51 (by assumption) ?_
            refine wT 16 63 (by assumption) ?_
            refine wT 5 52 (by assumption) ?_
            refine wT 17 64 (by assumption) ?_
            refine wT 6 53 (by assumption) ?_
            refine wT 18 65 (by assumption) ?_
            refine wT 7 54 (by assumption) ?_
            refine wT 9 56 (by assumption) ?_
            refine wT 10 57 (by assumption) ?_
            refine wT 11 58 (by assumption) ?_
            refine wpAnyH_ready (rs := [19]) (by kernel_rfl) (by simp) ?_
            refine AllReadyH.cons (o := ⟨some 66, _, _, _, _, _⟩) rfl (fun K hK => ?_) AllReadyH.nil
            obtain ⟨hS1, hS2⟩ := hHeld
            go_simp
            (go_at_call 56; (with_reducible refine (WV.out _).mono ?_); rintro e w7 ⟨rfl, hs7⟩)
            refine hK.out _ _ (by (try dsimp only); (first | exact ⟨hS1, hS2⟩ | exact ⟨Step.of, (bcell (fut _ _)).1⟩)) (fun hHeld => ?_)
            clear hK K
            (try simp only [Act.put, List.setIfInBounds_toArray, List.set_cons_zero, List.set_cons_succ])
            refine wT 20 67 (by assumption) ?_
            refine wpAnyH_ready (rs := [21]) (by kernel_rfl) (by simp) ?_
            refine AllReadyH.cons (o := ⟨some 68, _, _, _, _, _⟩) rfl (fun K hK => ?_) AllReadyH.nil
            obtain ⟨hS1, hS2⟩ := hHeld
            go_simp
            (go_at_call 122; (with_reducible refine (throw_yes _ _).mono ?_); rintro e w9 ⟨rfl, h9⟩; obtain rfl := h9.symm)
            exact ⟨rfl, by rw [HE.out]; exact ⟨Mt.step hg (fut w _), rfl⟩⟩
          | true =>
            have HE : Hid (R = .ok ⟨t.s, t.sid, t.fs, setRows (t.rs.map RowA.vs) xn o.v l⟩) := by show _ = _; rw [← HR3.out, if_neg (by rw [hw]; simp)]
            rw [hw] at WV
            have WV := hide WV
            clear hw HR3
            refine wp_region_held_drew (S := (fun w' => Step wu w' ∧ (∀ b o, b < wu.heap.size → w'.cell? ⟨b, o, none⟩ = wu.cell? ⟨b, o, none⟩))) (by kernel_rfl) (by (try dsimp only); (first | exact ⟨hS1, hS2⟩ | exact ⟨Step.of, (bcell (fut _ _)).1⟩)) (fun hHeld => ?_)
            refine wT 0 47 (by assumption) ?_
            refine wT 8 55 (by assumption) ?_
            refine wT 12 59 (by assumption) ?_
            refine wT 1 48 (by assumption) ?_
            refine wT 13 60 (by assumption) ?_
            refine wT 2 49 (by assumption) ?_
            refine wT 14 61 (by assumption) ?_
            refine wT 3 50 (by assumption) ?_
            refine wT 15 62 (by assumption) ?_
            refine wT 4 51 (by assumption) ?_
            refine wT 16 63 (by assumption) ?_
            refine wT 5 52 (by assumption) ?_
            refine wT 17 64 (by assumption) ?_
            refine wT 6 53 (by assumption) ?_
            refine wT 18 65 (by assumption) ?_
            refine wT 7 54 (by assumption) ?_
            refine wT 9 56 (by assumption) ?_
            refine wT 10 57 (by assumption) ?_
            refine wT 11 58 (by assumption) ?_
            refine wpAnyH_ready (rs := [19]) (by kernel_rfl) (by simp) ?_
            refine AllReadyH.cons (o := ⟨some 66, _, _, _, _, _⟩) rfl (fun K hK => ?_) AllReadyH.nil
            obtain ⟨hS1, hS2⟩ := hHeld
            go_simp
            (go_at_call 56; (with_reducible refine (WV.out _).mono ?_); rintro e w7 ⟨rfl, hs7⟩)
            refine hK.out _ _ (by (try dsimp only); (first | exact ⟨hS1, hS2⟩ | exact ⟨Step.of, (bcell (fut _ _)).1⟩)) (fun hHeld => ?_)
            clear hK K
            (try simp only [Act.put, List.setIfInBounds_toArray, List.set_cons_zero, List.set_cons_succ])
            refine wT 20 67 (by assumption) ?_
            refine wpAnyH_ready (rs := [21]) (by kernel_rfl) (by simp) ?_
            refine AllReadyH.cons (o := ⟨some 68, _, _, _, _, _⟩) rfl (fun K hK => ?_) AllReadyH.nil
            obtain ⟨hS1, hS2⟩ := hHeld
            go_simp
            (go_at_call 122; (with_reducible refine (throw_no _ _).mono ?_); rintro e w9 ⟨rfl, h9⟩; obtain rfl := h9.symm)
            refine hK.out _ _ (by (try dsimp only); (first | exact ⟨hS1, hS2⟩ | exact ⟨Step.of, (bcell (fut _ _)).1⟩)) (fun hHeld => ?_)
            clear hK K
            (try simp only [Act.put, List.setIfInBounds_toArray, List.set_cons_zero, List.set_cons_succ])
            refine wpAnyH_done (by kernel_rfl) ?_ _
            clear d0 d1 ld t0 t1 t2 t3 t4 t5 lt_ ft_ o0 o1 o2 o3 o4 o5 o6 o7 o8 o9 o10 o11 o12 o13 o14 o15 lo c0 c1 c2_
            obtain ⟨wl, hwl⟩ : ∃ x : World, x = w7 := ⟨_, rfl⟩
            rw [← hwl] at hs7 ⊢
            clear hwl
            have hzl := (fut w wl).size
            have hll : l.length ≤ 4096 := by have := HLB.out.2; omega
            have HO5 : Hid (Own wl w.heap.size 3 1 (.slice A4 l.length c4) (intCells l)) := (HO4.out.more (fut w wp).size).fut
            have HDL : Hid (Doer wl g D T O t o) := HD.out.fut
            go_wp2_with fail
            go_loopw [5, 71] (fun _ i wx => ∃ (k : Nat) (rs : List RowA), k ≤ l.length ∧ i = .int .i64 k ∧ Hid (rs.map RowA.vs = setRows (t.rs.map RowA.vs) xn o.v (l.take k)) ∧ Hid (rs.length = t.rs.length) ∧ Hid (∀ r ∈ rs, r.vs.length = t.s.cols.length) ∧ Doer wx g D T O (t.with_ rs) o ∧ Mt g T w wx ∧ Own wx w.heap.size 3 1 (.slice A4 l.length c4) (intCells l) ∧ w.heap.size ≤ wx.heap.size) (fun _ i _ => l.length - (intOf i).toNat)
            case atStart => exact ⟨0, t.rs, Nat.zero_le _, rfl, rfl, rfl, HROW, HDL.out.fut, Mt.step hg (fut w _), HO5.out.fut, (fut w _).size⟩
            case round =>
              clear HO5 HDL
              obtain ⟨k, rs, hk, rfl, HVS, HRL, HLN, hdo, hmt, hol, hsz⟩ := hrel
              have HDO := hide hdo; have HMT := hide hmt; have HOL := hide hol
              clear hdo hmt hol
              obtain ⟨wo, rfl⟩ : ∃ x : World, x = wr := ⟨_, rfl⟩
              by_cases hlt : k < l.length
              · obtain ⟨b4, off4, hA4, hb4, hc4⟩ := (HOL.out.sl (int_fit _).len).elem (w' := wo) inferInstance (k := k) (by rw [intCells_len]; exact hlt)
                obtain ⟨kx, hkx⟩ : ∃ kx, l[k]? = some kx := ⟨_, List.getElem?_eq_getElem hlt⟩
                obtain ⟨hk0, hk1⟩ := HLB.out.1 kx (List.mem_of_getElem? hkx)
                obtain ⟨kn, rfl⟩ : ∃ kn : Nat, kx = (kn : Int) := ⟨kx.toNat, by omega⟩
                have q0 := At.l1 (hc4 k [.int .i64 (kn : Int)] (by simp [intCells, hkx]))
                simp only [Nat.mul_one] at q0
                have hkl : (k : Int) < (l.length : Int) := by omega
                have hkz : (0 : Int) ≤ (k : Int) := by omega
                have hknl : kn < rs.length := by rw [HRL.out]; omega
                obtain ⟨r, hr⟩ : ∃ r, rs[kn]? = some r := ⟨_, List.getElem?_eq_getElem hknl⟩
                have hrl := HLN.out r (List.mem_of_getElem? hr)
                obtain ⟨u, hu⟩ : ∃ u, r.vs[xn]? = some u := ⟨_, List.getElem?_eq_getElem (by omega)⟩
                obtain ⟨gR, hAr, hgR, hltR, hcell, hfzR, _, _⟩ := HDO.out.own.rows.row hr
                obtain ⟨gV, hAv, hgV, hltV, hat, hfz, hput⟩ := HDO.out.putV hr hu (by omega)
                have HPUT := hide (hput o.v)
                have HVB : Hid (∃ cur, Blk wo gV 36 cur) := by
                  obtain ⟨g2, cur, e2, _, _, hb2, _⟩ := (HDO.out.own.rows.rows.rows r (List.mem_of_getElem? hr)).blk (by simp; omega)
                  rw [hAv] at e2
                  injection e2 with e2
                  injection e2 with e2
                  subst e2
                  exact ⟨cur, hb2⟩
                have HRB : Hid (∃ cur, Blk wo gR 67 cur) := by
                  obtain ⟨g2, cur, e2, _, _, hb2, _⟩ := HDO.out.own.rows.rows.out.blk (by show 0 < (rs.map RowA.cells).length; rw [List.length_map, HRL.out]; omega)
                  have e3 : t.Ar = some ⟨gR, 0, none⟩ := hAr
                  have e4 : t.Ar = some ⟨g2, 0, none⟩ := e2
                  rw [e3] at e4
                  injection e4 with e4
                  injection e4 with e4
                  subst e4
                  exact ⟨cur, hb2⟩
                have hDV : D ≠ gV := by obtain ⟨_, hb⟩ := HVB.out; exact HDO.out.d.ne_ hb (by decide)
                have hTV : T ≠ gV := by obtain ⟨_, hb⟩ := HVB.out; exact HDO.out.tb.ne_ hb (by decide)
                have hOV : O ≠ gV := by obtain ⟨_, hb⟩ := HVB.out; exact HDO.out.op.ne_ hb (by decide)
                have hRV : gR ≠ gV := by obtain ⟨_, hb⟩ := HVB.out; obtain ⟨_, hb2⟩ := HRB.out; exact hb2.ne_ hb (by decide)
                have HVS2 : Hid ((rs.set kn ⟨r.A, r.cap, r.vs.set xn o.v⟩).map RowA.vs = setRows (t.rs.map RowA.vs) xn o.v (l.take (k + 1))) := by
                  show _ = _
                  rw [setRows_snoc hkx, ← HVS.out, Int.toNat_natCast]
                  exact map_set_modify (f := fun vs => vs.set xn o.v) hr
                have HRL2 : Hid ((rs.set kn ⟨r.A, r.cap, r.vs.set xn o.v⟩).length = t.rs.length) := by show _ = _; rw [List.length_set]; exact HRL.out
                have HLN2 : Hid (∀ z ∈ rs.set kn ⟨r.A, r.cap, r.vs.set xn o.v⟩, z.vs.length = t.s.cols.length) := by
                  intro z hz
                  rcases List.mem_or_eq_of_mem_set hz with hz | rfl
                  · exact HLN.out z hz
                  · show (r.vs.set xn o.v).length = _
                    rw [List.length_set]
                    exact hrl
                have HDO2 : Hid (Doer (((((wo.setCell ⟨gV, xn * 4, none⟩ (.int .i64 o.v.kind)).setCell ⟨gV, xn * 4 + 1, none⟩ (.int .i64 o.v.i)).setCell ⟨gV, xn * 4 + 2, none⟩ (.bool o.v.b)).setCell ⟨gV, xn * 4 + 3, none⟩ (.string o.v.s)).drew) g D T O (t.with_ (rs.set kn ⟨r.A, r.cap, r.vs.set xn o.v⟩)) o) := HPUT.out.1.fut (w' := (set4 wo gV (xn * 4) o.v).drew)
                have HMT2 : Hid (Mt g T w (((((wo.setCell ⟨gV, xn * 4, none⟩ (.int .i64 o.v.kind)).setCell ⟨gV, xn * 4 + 1, none⟩ (.int .i64 o.v.i)).setCell ⟨gV, xn * 4 + 2, none⟩ (.bool o.v.b)).setCell ⟨gV, xn * 4 + 3, none⟩ (.string o.v.s)).drew)) := (HMT.out.trans HPUT.out.2).drew
                have HSZ2 : Hid (w.heap.size ≤ (((((wo.setCell ⟨gV, xn * 4, none⟩ (.int .i64 o.v.kind)).setCell ⟨gV, xn * 4 + 1, none⟩ (.int .i64 o.v.i)).setCell ⟨gV, xn * 4 + 2, none⟩ (.bool o.v.b)).setCell ⟨gV, xn * 4 + 3, none⟩ (.string o.v.s)).drew).heap.size) := by
                  show _ ≤ _
                  have := (set4_grown wo gV (xn * 4) o.v).size
                  have h2 : (set4 wo gV (xn * 4) o.v).heap.size = (((((wo.setCell ⟨gV, xn * 4, none⟩ (.int .i64 o.v.kind)).setCell ⟨gV, xn * 4 + 1, none⟩ (.int .i64 o.v.i)).setCell ⟨gV, xn * 4 + 2, none⟩ (.bool o.v.b)).setCell ⟨gV, xn * 4 + 3, none⟩ (.string o.v.s)).drew).heap.size := rfl
                  omega
                have HOL2 : Hid (Own (((((wo.setCell ⟨gV, xn * 4, none⟩ (.int .i64 o.v.kind)).setCell ⟨gV, xn * 4 + 1, none⟩ (.int .i64 o.v.i)).setCell ⟨gV, xn * 4 + 2, none⟩ (.bool o.v.b)).setCell ⟨gV, xn * 4 + 3, none⟩ (.string o.v.s)).drew) w.heap.size 3 1 (.slice A4 l.length c4) (intCells l)) := by
                  obtain ⟨_, hb⟩ := HVB.out
                  have := HOL.out.grown_other (set4_grown wo gV (xn * 4) o.v) (fun q hq hh => by
                    injection hh with hh
                    subst hh
                    exact HOL.out.ne_ hb (by decide) hq.symm)
                  exact this.fut (w' := (set4 wo gV (xn * 4) o.v).drew)
                have HC24 : Hid (∀ (b o' : Nat), b ≠ gV → (((((wo.setCell ⟨gV, xn * 4, none⟩ (.int .i64 o.v.kind)).setCell ⟨gV, xn * 4 + 1, none⟩ (.int .i64 o.v.i)).setCell ⟨gV, xn * 4 + 2, none⟩ (.bool o.v.b)).setCell ⟨gV, xn * 4 + 3, none⟩ (.string o.v.s)).drew).cell? ⟨b, o', none⟩ = wo.cell? ⟨b, o', none⟩) := fun b o' hn => set4_cellD wo hn.symm (xn * 4) o.v o'
                clear HVB HRB HPUT hput hkx hr hu
                obtain ⟨d0, d1⟩ := At.z2 (HDO.out.d.fut (w' := wo)).at0
                have ld := (HDO.out.d.fut (w' := wo)).lt
                obtain ⟨t0, t1, t2, t3, t4, t5⟩ := At.z6 (HDO.out.tb.fut (w' := wo)).at0
                have lt_ := (HDO.out.tb.fut (w' := wo)).lt
                have ft_ := (HDO.out.tb.fut (w' := wo)).free
                obtain ⟨o0, o1, o2, o3, o4, o5, o6, o7, o8, o9, o10, o11, o12, o13, o14, o15⟩ := At.zOp (HDO.out.op.fut (w' := wo)).at0
                have lo := (HDO.out.op.fut (w' := wo)).lt
                unfold TbA.cells TbA.with_ at *
                simp only at t0 t1 t2 t3 t4 t5
                have hAr2 : t.Ar = some ⟨gR, 0, none⟩ := hAr
                rw [hAr2] at t5
                rw [hAv] at hcell
                obtain ⟨k0, k1, k2, k3⟩ := At.l4 hat
                rw [hA4]
                have hkn0 : (0 : Int) ≤ (kn : Int) := by omega
                have hkni : (kn : Int) < (rs.length : Int) := by omega
                have hxri : (xn : Int) < (r.vs.length : Int) := by omega
                go_upto_region 8 with fail
                refine wp_region_held_drew (S := (fun w' => True ∧ (∀ b o, b < wo.heap.size → b ≠ gV → w'.cell? ⟨b, o, none⟩ = wo.cell? ⟨b, o, none⟩))) (by kernel_rfl) (by (try dsimp only); (first | exact ⟨hS1, hS2⟩ | exact ⟨trivial, fun b o h _ => rfl⟩)) (fun hHeld => ?_)
                refine wT 0 75 (by assumption) ?_
                refine wT 7 82 (by assumption) ?_
                refine wT 11 86 (by assumption) ?_
                refine wT 12 87 (by assumption) ?_
                refine wT 1 76 (by assumption) ?_
                refine wT 13 88 (by assumption) ?_
                refine wT 2 77 (by assumption) ?_
                refine wT 14 89 (by assumption) ?_
                refine wT 3 78 (by assumption) ?_
                refine wT 15 90 (by assumption) ?_
                refine wT 4 79 (by assumption) ?_
                refine wT 16 91 (by assumption) ?_
                refine wT 5 80 (by assumption) ?_
                refine wT 17 92 (by assumption) ?_
                refine wT 6 81 (by assumption) ?_
                refine wT 18 93 (by assumption) ?_
                refine wT 8 83 (by assumption) ?_
                refine wT 9 84 (by assumption) ?_
                refine wT 10 85 (by assumption) ?_
                refine wT 19 94 (by assumption) ?_
                refine wpAnyH_ready (rs := [20]) (by kernel_rfl) (by simp) ?_
                refine AllReadyH.cons (o := ⟨none, _, _, _, _, _⟩) rfl (fun K hK => ?_) AllReadyH.nil
                go_simp
                refine hK.out _ _ (by (try dsimp only); (with_reducible exact ⟨trivial, fun b o h hn => HC24.out b o hn⟩)) (fun hHeld => ?_)
                clear hK K
                (try simp only [Act.put, List.setIfInBounds_toArray, List.set_cons_zero, List.set_cons_succ])
                refine wpAnyH_done (by kernel_rfl) ?_ _
                obtain ⟨Y, hY⟩ : ∃ y : World, y = ((((wo.setCell ⟨gV, xn * 4, none⟩ (.int .i64 o.v.kind)).setCell ⟨gV, xn * 4 + 1, none⟩ (.int .i64 o.v.i)).setCell ⟨gV, xn * 4 + 2, none⟩ (.bool o.v.b)).setCell ⟨gV, xn * 4 + 3, none⟩ (.string o.v.s)).drew := ⟨_, rfl⟩
                rw [← hY] at HDO2 HOL2 HMT2 HSZ2
                rw [← hY]
                clear hY HC24
                clear d0 d1 ld t0 t1 t2 t3 t4 t5 lt_ ft_ o0 o1 o2 o3 o4 o5 o6 o7 o8 o9 o10 o11 o12 o13 o14 o15 lo q0 k0 k1 k2 k3 hfz
                go_wp2_with fail
                go_roundw
                case rel => exact ⟨k + 1, rs.set kn ⟨r.A, r.cap, r.vs.set xn o.v⟩, by omega, by go_num, HVS2.out, HRL2.out, HLN2.out, HDO2.out, HMT2.out, (by rw [← hA4]; exact HOL2.out), HSZ2.out⟩
                case measure => simp [intOf]; omega
              · obtain rfl : k = l.length := by omega
                go_wp2_with fail
                go_end0
                rw [HE.out]
                exact ⟨HMT.out, rfl, t.with_ rs, by show (⟨t.s, t.sid, t.fs, rs.map RowA.vs⟩ : Tb) = _; rw [HVS.out, List.take_length], HDO.out.tb, HDO.out.own.r⟩
end Go.Proofs.YtnphokhehacfnaaGreatDoor

namespace Go.Proofs.YtnphokhehacfnaaGreatDoor
open Go.RowKit

set_option maxRecDepth 100000 in
set_option maxHeartbeats 4000000 in
theorem run_upd {w1 : World} (g D T O : Nat) (t : TbA) (o : OpA) (w : World) (h : Doer w g D T O t o) (ho : OpIn w1 o) [f1 : Fut w1 w] (hf : TbFine t) (hg : g ≤ w.heap.size) (hn12 : t.s.cols.length ≤ 12) (hn4 : t.rs.length ≤ 4096) (hrow : ∀ r ∈ t.rs, r.vs.length = t.s.cols.length) (hk : o.kind = 3) :
    Calls Tryz.prog 44 #[.pointer (some ⟨D, 0, none⟩)] w fun e w' => RunR g T w (updateP t.tb o.op) e w' := by
  have CC := update_any g D T O t o w h ho hf hg hn12 hn4 hrow
  have HD := hide h
  obtain ⟨d0, d1⟩ := At.z2 (HD.out.d.fut (w' := w)).at0
  have ld := (HD.out.d.fut (w' := w)).lt
  obtain ⟨t0, t1, t2, t3, t4, t5⟩ := At.z6 (HD.out.tb.fut (w' := w)).at0
  have lt_ := (HD.out.tb.fut (w' := w)).lt
  have ft_ := (HD.out.tb.fut (w' := w)).free
  obtain ⟨o0, o1, o2, o3, o4, o5, o6, o7, o8, o9, o10, o11, o12, o13, o14, o15⟩ := At.zOp (HD.out.op.fut (w' := w)).at0
  have lo := (HD.out.op.fut (w' := w)).lt
  unfold TbA.cells at *
  rw [hk] at o0
  clear hk
  cases hR : updateP t.tb o.op with
  | error c =>
    rw [hR] at CC
    have CC := hide CC
    clear hR
    go_enter Tryz.func44, Tryz.ntmps44
    go_wp2_with (go_at_call 89; (with_reducible refine CC.out.mono ?_); rintro e w3 ⟨hmt, rfl⟩; have HMT := hide hmt; clear hmt)
    exact ⟨rfl, HMT.out, rfl⟩
  | ok u =>
    rw [hR] at CC
    have CC := hide CC
    clear hR
    go_enter Tryz.func44, Tryz.ntmps44
    go_wp2_with (go_at_call 89; (with_reducible refine CC.out.mono ?_); rintro e w3 ⟨hmt, rfl, t2, ht2, hb2, ho2⟩; have HMT := hide hmt; have HT2 := hide ht2; have HB2 := hide hb2; have HO2 := hide ho2; clear hmt ht2 hb2 ho2)
    go_end0
    exact ⟨HMT.out, rfl, t2, HT2.out, HB2.out, HO2.out⟩
end Go.Proofs.YtnphokhehacfnaaGreatDoor

namespace Go.Proofs.YtnphokhehacfnaaGreatDoor
open Go.RowKit

section
variable {P : Program} {w : World}
end
set_option maxRecDepth 100000 in
set_option maxHeartbeats 16000000 in
theorem run_comp {w1 : World} (g D T O : Nat) (t : TbA) (o : OpA) (w : World) (h : Doer w g D T O t o) (_ho : OpIn w1 o) [_f1 : Fut w1 w] (_hf : TbFine t) (hg : g ≤ w.heap.size) (hk : o.kind = 8) :
    Calls Tryz.prog 44 #[.pointer (some ⟨D, 0, none⟩)] w fun e w' => RunR g T w (.ok t.tb) e w' := by
  have HD := hide h
  obtain ⟨d0, d1⟩ := At.z2 (HD.out.d.fut (w' := w)).at0
  have ld := (HD.out.d.fut (w' := w)).lt
  obtain ⟨t0, t1, t2, t3, t4, t5⟩ := At.z6 (HD.out.tb.fut (w' := w)).at0
  have lt_ := (HD.out.tb.fut (w' := w)).lt
  have ft_ := (HD.out.tb.fut (w' := w)).free
  obtain ⟨o0, o1, o2, o3, o4, o5, o6, o7, o8, o9, o10, o11, o12, o13, o14, o15⟩ := At.zOp (HD.out.op.fut (w' := w)).at0
  have lo := (HD.out.op.fut (w' := w)).lt
  unfold TbA.cells at *
  rw [hk] at o0
  clear hk
  go_enter Tryz.func44, Tryz.ntmps44
  go_wp2_with fail
  go_end0
  exact ⟨Mt.step hg (fut w _), rfl, t, rfl, HD.out.tb.fut, HD.out.own.r.fut⟩
end Go.Proofs.YtnphokhehacfnaaGreatDoor

namespace Go.Proofs.YtnphokhehacfnaaGreatDoor
open Go.RowKit

set_option maxRecDepth 100000 in
set_option maxHeartbeats 16000000 in
theorem part_any {w1 : World} (g D T O : Nat) (t : TbA) (o : OpA) (w : World) (h : Doer w g D T O t o) (ho : OpIn w1 o) [f1 : Fut w1 w] (hf : TbFine t) (hg : g ≤ w.heap.size) (hs0 : 0 ≤ t.sid) (hs1 : t.sid ≤ 2147483647) :
    Calls Tryz.prog 94 #[.pointer (some ⟨D, 0, none⟩)] w fun e w' => RunR g T w (partP25 t.tb o.op) e w' := by
  have HSC := hide (h.own.r.tin hf).sch
  have HD := hide h
  have hfsm := ho.fsm; have hcap := ho.flds.hcap; have hcapm := ho.flds.hcapm; have hlen := ho.flds.len
  have HWR : Hid (wrap64 (t.sid + 1) = t.sid + 1) := by show _ = _; rw [wrap64]; omega
  have CL : Hid (∀ (w' : World), Fut w w' → Calls Tryz.prog 85 #[.slice o.Af o.fs.length o.cf] w' fun e w'' => ∃ (A' : Option Addr) (c' : Nat), e = .returned (.slice A' o.fs.length c') ∧ (Own w'' w.heap.size 92 3 (.slice A' o.fs.length c') (o.fs.map Fld.cells)) ∧ Step w' w'') := fun w' hq => by
    haveI := Fut.tr f1 hq
    refine (cloneF_any o.Af o.cf o.fs w' (ho.flds.fut (w' := w')).at_ hfsm).mono ?_
    rintro e w'' ⟨A', c', he, _, _, h3, h4⟩
    exact ⟨A', c', he, h3.more hq.below.size, ⟨h4⟩⟩
  obtain ⟨R, hR⟩ : ∃ R, partP25 t.tb o.op = R := ⟨_, rfl⟩
  have HR : Hid ((if specB (wrap64 (t.sid + 1)) o.fs t.s = false then .error 5 else .ok ⟨t.s, t.sid + 1, o.fs, t.rs.map RowA.vs⟩) = R) := hR
  rw [HWR.out] at HR
  have hwr : IntKind.i64.wrap (t.sid + 1) = t.sid + 1 := by rw [IntKind.wrap_i64]; omega
  rw [hR]
  clear hR h
  obtain ⟨d0, d1⟩ := At.z2 (HD.out.d.fut (w' := w)).at0
  have ld := (HD.out.d.fut (w' := w)).lt
  obtain ⟨t0, t1, t2, t3, t4, t5⟩ := At.z6 (HD.out.tb.fut (w' := w)).at0
  have lt_ := (HD.out.tb.fut (w' := w)).lt
  have ft_ := (HD.out.tb.fut (w' := w)).free
  obtain ⟨o0, o1, o2, o3, o4, o5, o6, o7, o8, o9, o10, o11, o12, o13, o14, o15⟩ := At.zOp (HD.out.op.fut (w' := w)).at0
  have lo := (HD.out.op.fut (w' := w)).lt
  unfold TbA.cells at *
  go_enter Tryz.func94, Tryz.ntmps94
  go_upto_region 0 with fail
  refine wp_region_held_drew (S := (fun w' => Step w w' ∧ (∀ b o, b < w.heap.size → w'.cell? ⟨b, o, none⟩ = w.cell? ⟨b, o, none⟩))) (by kernel_rfl) (by (try dsimp only); (first | exact ⟨hS1, hS2⟩ | exact ⟨Step.of, (bcell (fut _ _)).1⟩)) (fun hHeld => ?_)
  refine wT 0 3 (by assumption) ?_
  refine wT 9 12 (by assumption) ?_
  refine wT 1 4 (by assumption) ?_
  refine wT 10 13 (by assumption) ?_
  refine wT 2 5 (by assumption) ?_
  refine wT 11 14 (by assumption) ?_
  refine wT 3 6 (by assumption) ?_
  refine wT 12 15 (by assumption) ?_
  refine wT 4 7 (by assumption) ?_
  refine wT 13 16 (by assumption) ?_
  refine wT 5 8 (by assumption) ?_
  refine wT 14 17 (by assumption) ?_
  refine wT 6 9 (by assumption) ?_
  refine wT 15 18 (by assumption) ?_
  refine wT 7 10 (by assumption) ?_
  refine wT 8 11 (by assumption) ?_
  refine wpAnyH_ready (rs := [16, 18]) (by kernel_rfl) (by simp) ?_
  refine AllReadyH.cons (o := ⟨some 19, _, _, _, _, _⟩) rfl (fun K hK => ?_) (AllReadyH.cons (o := ⟨some 2, _, _, _, _, _⟩) rfl (fun K hK => ?_) AllReadyH.nil)
  · obtain ⟨hS1, hS2⟩ := hHeld
    go_simp
    (go_at_call 85; (with_reducible refine (CL.out _ inferInstance).mono ?_); rintro e w3 ⟨A3, c3, rfl, ho3, hs3⟩; have HO3 := hide ho3; clear ho3; try (have hp3 := HPB.out.fut (w' := w3); obtain ⟨p0, p1⟩ := At.z2 hp3.at0; have lp := hp3.lt; have fp := hp3.free; clear hp3))
    refine hK.out _ _ (by (try dsimp only); (first | exact ⟨hS1, hS2⟩ | exact ⟨Step.of, (bcell (fut _ _)).1⟩)) (fun hHeld => ?_)
    clear hK K
    (try simp only [Act.put, List.setIfInBounds_toArray, List.set_cons_zero, List.set_cons_succ])
    refine wT 17 20 (by assumption) ?_
    refine wpAnyH_ready (rs := [18]) (by kernel_rfl) (by simp) ?_
    refine AllReadyH.cons (o := ⟨some 2, _, _, _, _, _⟩) rfl (fun K hK => ?_) AllReadyH.nil
    go_simp
    first | (have HPB := hide (Blk.new w3 [.int .i64 0, .slice none 0 0] 27)) | (have HPB := hide (Blk.new w [.int .i64 0, .slice none 0 0] 27))
    obtain ⟨p0, p1⟩ := At.z2 HPB.out.at0
    have lp := HPB.out.lt
    have fp := HPB.out.free
    refine hK.out _ _ (by (try dsimp only); (first | exact ⟨hS1, hS2⟩ | exact ⟨Step.of, (bcell (fut _ _)).1⟩)) (fun hHeld => ?_)
    clear hK K
    (try simp only [Act.put, List.setIfInBounds_toArray, List.set_cons_zero, List.set_cons_succ])
    refine wpAnyH_ready (rs := [19]) (by kernel_rfl) (by simp) ?_
    refine AllReadyH.cons (o := ⟨none, _, _, _, _, _⟩) rfl (fun K hK => ?_) AllReadyH.nil
    go_simp
    refine hK.out _ _ (by (try dsimp only); (constructor; exact Step.of; intro b o h; exact (fut w _).cell (p := ⟨b, o, none⟩) h)) (fun hHeld => ?_)
    clear hK K
    (try simp only [Act.put, List.setIfInBounds_toArray, List.set_cons_zero, List.set_cons_succ])
    refine wpAnyH_done (by kernel_rfl) ?_ _
    obtain ⟨x1, hx1⟩ : ∃ x : World, x = w3.alloc (.cells #[.int .i64 (t.sid + 1), .slice A3 o.fs.length c3] 27) := ⟨_, rfl⟩
    obtain ⟨pb, hpb⟩ : ∃ pb : Nat, pb = w3.heap.size := ⟨_, rfl⟩
    have HPX : Hid (Blk x1 pb 27 [.int .i64 (t.sid + 1), .slice A3 o.fs.length c3]) := by rw [hx1, hpb]; exact Blk.new w3 [.int .i64 (t.sid + 1), .slice A3 o.fs.length c3] 27
    have SX1 : Step w3 x1 := by rw [hx1]; exact Step.of
    have HFX : Hid (Own x1 w.heap.size 92 3 (.slice A3 o.fs.length c3) (o.fs.map Fld.cells)) := HO3.out.fut
    rw [← hx1, ← hpb]
    clear hx1 hpb HPB HO3 p0 p1 lp fp d0 d1 ld t0 t1 t2 t3 t4 t5 lt_ ft_ o0 o1 o2 o3 o4 o5 o6 o7 o8 o9 o10 o11 o12 o13 o14 o15 lo
    have HFS : Hid (FsIn x1 o.fs A3 c3) := by
      obtain ⟨A2, c2, e2, k1, k2, k3, _⟩ := HFX.out.slice (flds_fit o.fs).len (by simp : (o.fs.map Fld.cells).length = o.fs.length)
      injection e2 with b1 b2 b3
      exact ⟨by rw [b3]; exact k1, by rw [b3]; simpa [maxLen] using k2, by omega, by rw [b1]; exact k3⟩
    have hwx : Fut w x1 := inferInstance
    have SM := fun (w' : World) (hq : Fut x1 w') => haveI : Fut w w' := Fut.tr hwx hq; pspec_any (w0 := x1) (w1 := w) (t.sid + 1) o.fs A3 c3 t.s t.As t.cs w' HFS.out HSC.out
    clear hwx
    unfold Sch.val at SM
    obtain ⟨d0, d1⟩ := At.z2 (HD.out.d.fut (w' := x1)).at0
    have ld := (HD.out.d.fut (w' := x1)).lt
    obtain ⟨t0, t1, t2, t3, t4, t5⟩ := At.z6 (HD.out.tb.fut (w' := x1)).at0
    have lt_ := (HD.out.tb.fut (w' := x1)).lt
    have ft_ := (HD.out.tb.fut (w' := x1)).free
    obtain ⟨o0, o1, o2, o3, o4, o5, o6, o7, o8, o9, o10, o11, o12, o13, o14, o15⟩ := At.zOp (HD.out.op.fut (w' := x1)).at0
    have lo := (HD.out.op.fut (w' := x1)).lt
    obtain ⟨p0, p1⟩ := At.z2 HPX.out.at0
    have lp := HPX.out.lt
    cases hb : specB (t.sid + 1) o.fs t.s with
    | false =>
      have HE : Hid (R = .error 5) := by show _ = _; rw [← HR.out, if_pos hb]
      rw [hb] at SM
      have SM := hide SM
      clear hb
      go_upto_region 1 with fail
      refine wp_region_held_drew (S := (fun w' => Step x1 w' ∧ (∀ b o, b < x1.heap.size → w'.cell? ⟨b, o, none⟩ = x1.cell? ⟨b, o, none⟩))) (by kernel_rfl) (by (try dsimp only); (first | exact ⟨hS1, hS2⟩ | exact ⟨Step.of, (bcell (fut _ _)).1⟩)) (fun hHeld => ?_)
      refine wT 0 21 (by assumption) ?_
      refine wT 1 22 (by assumption) ?_
      refine wT 2 23 (by assumption) ?_
      refine wT 3 24 (by assumption) ?_
      refine wT 4 25 (by assumption) ?_
      refine wT 5 26 (by assumption) ?_
      refine wT 6 27 (by assumption) ?_
      refine wT 7 28 (by assumption) ?_
      refine wpAnyH_ready (rs := [8]) (by kernel_rfl) (by simp) ?_
      refine AllReadyH.cons (o := ⟨some 29, _, _, _, _, _⟩) rfl (fun K hK => ?_) AllReadyH.nil
      obtain ⟨hS1, hS2⟩ := hHeld
      go_simp
      (go_at_call 55; (with_reducible refine (SM.out _ inferInstance).mono ?_); rintro e w5 ⟨rfl, hs5⟩)
      refine hK.out _ _ (by (try dsimp only); (first | exact ⟨hS1, hS2⟩ | exact ⟨Step.of, (bcell (fut _ _)).1⟩)) (fun hHeld => ?_)
      clear hK K
      (try simp only [Act.put, List.setIfInBounds_toArray, List.set_cons_zero, List.set_cons_succ])
      refine wT 9 30 (by assumption) ?_
      refine wpAnyH_ready (rs := [10]) (by kernel_rfl) (by simp) ?_
      refine AllReadyH.cons (o := ⟨some 31, _, _, _, _, _⟩) rfl (fun K hK => ?_) AllReadyH.nil
      obtain ⟨hS1, hS2⟩ := hHeld
      go_simp
      (go_at_call 122; (with_reducible refine (throw_yes _ _).mono ?_); rintro e w9 ⟨rfl, h9⟩; obtain rfl := h9.symm)
      exact ⟨rfl, by rw [HE.out]; exact ⟨Mt.step hg (fut w w5), rfl⟩⟩
    | true =>
      have HE : Hid (R = .ok ⟨t.s, t.sid + 1, o.fs, t.rs.map RowA.vs⟩) := by show _ = _; rw [← HR.out, if_neg (by rw [hb]; simp)]
      rw [hb] at SM
      have SM := hide SM
      clear hb
      go_upto_region 1 with fail
      refine wp_region_held_drew (S := (fun w' => Step x1 w' ∧ (∀ b o, b < x1.heap.size → w'.cell? ⟨b, o, none⟩ = x1.cell? ⟨b, o, none⟩))) (by kernel_rfl) (by (try dsimp only); (first | exact ⟨hS1, hS2⟩ | exact ⟨Step.of, (bcell (fut _ _)).1⟩)) (fun hHeld => ?_)
      refine wT 0 21 (by assumption) ?_
      refine wT 1 22 (by assumption) ?_
      refine wT 2 23 (by assumption) ?_
      refine wT 3 24 (by assumption) ?_
      refine wT 4 25 (by assumption) ?_
      refine wT 5 26 (by assumption) ?_
      refine wT 6 27 (by assumption) ?_
      refine wT 7 28 (by assumption) ?_
      refine wpAnyH_ready (rs := [8]) (by kernel_rfl) (by simp) ?_
      refine AllReadyH.cons (o := ⟨some 29, _, _, _, _, _⟩) rfl (fun K hK => ?_) AllReadyH.nil
      obtain ⟨hS1, hS2⟩ := hHeld
      go_simp
      (go_at_call 55; (with_reducible refine (SM.out _ inferInstance).mono ?_); rintro e w5 ⟨rfl, hs5⟩)
      refine hK.out _ _ (by (try dsimp only); (first | exact ⟨hS1, hS2⟩ | exact ⟨Step.of, (bcell (fut _ _)).1⟩)) (fun hHeld => ?_)
      clear hK K
      (try simp only [Act.put, List.setIfInBounds_toArray, List.set_cons_zero, List.set_cons_succ])
      refine wT 9 30 (by assumption) ?_
      refine wpAnyH_ready (rs := [10]) (by kernel_rfl) (by simp) ?_
      refine AllReadyH.cons (o := ⟨some 31, _, _, _, _, _⟩) rfl (fun K hK => ?_) AllReadyH.nil
      obtain ⟨hS1, hS2⟩ := hHeld
      go_simp
      (go_at_call 122; (with_reducible refine (throw_no _ _).mono ?_); rintro e w9 ⟨rfl, h9⟩; obtain rfl := h9.symm)
      refine hK.out _ _ (by (try dsimp only); (first | exact ⟨hS1, hS2⟩ | exact ⟨Step.of, (bcell (fut _ _)).1⟩)) (fun hHeld => ?_)
      clear hK K
      (try simp only [Act.put, List.setIfInBounds_toArray, List.set_cons_zero, List.set_cons_succ])
      refine wpAnyH_done (by kernel_rfl) ?_ _
      clear p0 p1 lp; clear d0 d1 ld t0 t1 t2 t3 t4 t5 lt_ ft_ o0 o1 o2 o3 o4 o5 o6 o7 o8 o9 o10 o11 o12 o13 o14 o15 lo
      obtain ⟨x5, hx5⟩ : ∃ x : World, x = w5 := ⟨_, rfl⟩
      rw [← hx5] at hs5 ⊢
      clear hx5
      have HPX5 := hide (HPX.out.fut (w' := x5))
      have HT5 := hide (HD.out.tb.fut (w' := x5))
      have HTF : Hid (Blk (((x5.setCell ⟨T, 3, none⟩ (.int .i64 (t.sid + 1))).setCell ⟨T, 4, none⟩ (.slice A3 o.fs.length c3)).drew) T 30 [.int .i64 t.s.id, .slice t.As t.s.cols.length t.cs, .int .i64 t.s.next, .int .i64 (t.sid + 1), .slice A3 o.fs.length c3, .slice t.Ar t.rs.length t.cr]) := (HT5.out.set_ 3 (.int .i64 (t.sid + 1))).set_ 4 (.slice A3 o.fs.length c3)
      have HOF : Hid (TbOwnR (((x5.setCell ⟨T, 3, none⟩ (.int .i64 (t.sid + 1))).setCell ⟨T, 4, none⟩ (.slice A3 o.fs.length c3)).drew) g ⟨t.s, t.As, t.cs, t.sid + 1, o.fs, A3, c3, t.rs, t.Ar, t.cr⟩) := by
        have r0 : TbOwnR x5 g ⟨t.s, t.As, t.cs, t.sid + 1, o.fs, A3, c3, t.rs, t.Ar, t.cr⟩ := ⟨(HD.out.own.r.fut (w' := x5)).cols, (HFX.out.fut (w' := x5)).more hg, (HD.out.own.r.fut (w' := x5)).rows⟩
        exact ((r0.setT HT5.out 3 (.int .i64 (t.sid + 1))).setT (HT5.out.set_ 3 (.int .i64 (t.sid + 1))) 4 (.slice A3 o.fs.length c3)).fut
      have HC2 : Hid (∀ (b o' : Nat), b ≠ T → (((x5.setCell ⟨T, 3, none⟩ (.int .i64 (t.sid + 1))).setCell ⟨T, 4, none⟩ (.slice A3 o.fs.length c3)).drew).cell? ⟨b, o', none⟩ = x5.cell? ⟨b, o', none⟩) := fun b o' hn => by
        have e0 := Below.heap_setCell x5 ⟨T, 3, none⟩ (.int .i64 (t.sid + 1)) b hn
        have e1 := Below.heap_setCell (x5.setCell ⟨T, 3, none⟩ (.int .i64 (t.sid + 1))) ⟨T, 4, none⟩ (.slice A3 o.fs.length c3) b hn
        exact World.cell?_of_block (w := x5) (e1.trans e0)
      have hpT : pb ≠ T := HPX5.out.ne_ HT5.out (by decide)
      have hDT : D ≠ T := HD.out.dT
      obtain ⟨d0, d1⟩ := At.z2 (HD.out.d.fut (w' := x5)).at0
      have ld := (HD.out.d.fut (w' := x5)).lt
      obtain ⟨t0, t1, t2, t3, t4, t5⟩ := At.z6 (HD.out.tb.fut (w' := x5)).at0
      have lt_ := (HD.out.tb.fut (w' := x5)).lt
      have ft_ := (HD.out.tb.fut (w' := x5)).free
      obtain ⟨o0, o1, o2, o3, o4, o5, o6, o7, o8, o9, o10, o11, o12, o13, o14, o15⟩ := At.zOp (HD.out.op.fut (w' := x5)).at0
      have lo := (HD.out.op.fut (w' := x5)).lt
      obtain ⟨p0, p1⟩ := At.z2 HPX5.out.at0
      have lp := HPX5.out.lt
      clear HPX5 HT5
      go_upto_region 2 with fail
      refine wp_region_held_drew (S := (fun w' => True ∧ ∀ b o, b < x5.heap.size → b ≠ T → w'.cell? ⟨b, o, none⟩ = x5.cell? ⟨b, o, none⟩)) (by kernel_rfl) (by (try dsimp only); (first | exact ⟨hS1, hS2⟩ | exact ⟨trivial, fun b o h _ => rfl⟩)) (fun hHeld => ?_)
      refine wT 0 32 (by assumption) ?_
      refine wT 4 36 (by assumption) ?_
      refine wT 1 33 (by assumption) ?_
      refine wT 2 34 (by assumption) ?_
      refine wT 3 35 (by assumption) ?_
      refine wT 5 37 (by assumption) ?_
      refine wT 6 38 (by assumption) ?_
      refine wpAnyH_ready (rs := [7]) (by kernel_rfl) (by simp) ?_
      refine AllReadyH.cons (o := ⟨none, _, _, _, _, _⟩) rfl (fun K hK => ?_) AllReadyH.nil
      go_simp
      refine hK.out _ _ (by (try dsimp only); (with_reducible exact ⟨trivial, fun b o h h1 => HC2.out b o h1⟩)) (fun hHeld => ?_)
      clear hK K
      (try simp only [Act.put, List.setIfInBounds_toArray, List.set_cons_zero, List.set_cons_succ])
      refine wpAnyH_done (by kernel_rfl) ?_ _
      clear p0 p1 lp HC2 d0 d1 ld t0 t1 t2 t3 t4 t5 lt_ ft_ o0 o1 o2 o3 o4 o5 o6 o7 o8 o9 o10 o11 o12 o13 o14 o15 lo
      go_wp2_with fail
      go_end0
      rw [HE.out]
      exact ⟨((Mt.step hg (fut w x5)).trans ((Mt.cell x5 HD.out.gT 3 _).trans (Mt.cell _ HD.out.gT 4 _))).drew, rfl, ⟨t.s, t.As, t.cs, t.sid + 1, o.fs, A3, c3, t.rs, t.Ar, t.cr⟩, rfl, HTF.out, HOF.out⟩
  · go_simp
    first | (have HPB := hide (Blk.new w3 [.int .i64 0, .slice none 0 0] 27)) | (have HPB := hide (Blk.new w [.int .i64 0, .slice none 0 0] 27))
    obtain ⟨p0, p1⟩ := At.z2 HPB.out.at0
    have lp := HPB.out.lt
    have fp := HPB.out.free
    refine hK.out _ _ (by (try dsimp only); (first | exact ⟨hS1, hS2⟩ | exact ⟨Step.of, (bcell (fut _ _)).1⟩)) (fun hHeld => ?_)
    clear hK K
    (try simp only [Act.put, List.setIfInBounds_toArray, List.set_cons_zero, List.set_cons_succ])
    refine wpAnyH_ready (rs := [16]) (by kernel_rfl) (by simp) ?_
    refine AllReadyH.cons (o := ⟨some 19, _, _, _, _, _⟩) rfl (fun K hK => ?_) AllReadyH.nil
    obtain ⟨hS1, hS2⟩ := hHeld
    go_simp
    (go_at_call 85; (with_reducible refine (CL.out _ inferInstance).mono ?_); rintro e w3 ⟨A3, c3, rfl, ho3, hs3⟩; have HO3 := hide ho3; clear ho3; try (have hp3 := HPB.out.fut (w' := w3); obtain ⟨p0, p1⟩ := At.z2 hp3.at0; have lp := hp3.lt; have fp := hp3.free; clear hp3))
    refine hK.out _ _ (by (try dsimp only); (first | exact ⟨hS1, hS2⟩ | exact ⟨Step.of, (bcell (fut _ _)).1⟩)) (fun hHeld => ?_)
    clear hK K
    (try simp only [Act.put, List.setIfInBounds_toArray, List.set_cons_zero, List.set_cons_succ])
    refine wT 17 20 (by assumption) ?_
    refine wpAnyH_ready (rs := [19]) (by kernel_rfl) (by simp) ?_
    refine AllReadyH.cons (o := ⟨none, _, _, _, _, _⟩) rfl (fun K hK => ?_) AllReadyH.nil
    go_simp
    refine hK.out _ _ (by (try dsimp only); (constructor; exact Step.of; intro b o h; exact (fut w _).cell (p := ⟨b, o, none⟩) h)) (fun hHeld => ?_)
    clear hK K
    (try simp only [Act.put, List.setIfInBounds_toArray, List.set_cons_zero, List.set_cons_succ])
    refine wpAnyH_done (by kernel_rfl) ?_ _
    obtain ⟨x1, hx1⟩ : ∃ x : World, x = (w3.setCell ⟨w.heap.size, 0, none⟩ (.int .i64 (t.sid + 1))).setCell ⟨w.heap.size, 1, none⟩ (.slice A3 o.fs.length c3) := ⟨_, rfl⟩
    obtain ⟨pb, hpb⟩ : ∃ pb : Nat, pb = w.heap.size := ⟨_, rfl⟩
    have hb3 := HPB.out.fut (w' := w3)
    have HPX : Hid (Blk x1 pb 27 [.int .i64 (t.sid + 1), .slice A3 o.fs.length c3]) := by rw [hx1, hpb]; exact (hb3.set_ 0 (.int .i64 (t.sid + 1))).set_ 1 (.slice A3 o.fs.length c3)
    have SX1 : Step w x1 := by rw [hx1]; exact ⟨((fut w w3).setCell (p := ⟨w.heap.size, 0, none⟩) (Nat.le_refl _) _).setCell (p := ⟨w.heap.size, 1, none⟩) (Nat.le_refl _) _⟩
    have HFX : Hid (Own x1 w.heap.size 92 3 (.slice A3 o.fs.length c3) (o.fs.map Fld.cells)) := by rw [hx1]; exact (HO3.out.set_other hb3 (by decide) 0 _).set_other (hb3.set_ 0 _) (by decide) 1 _
    clear hb3
    rw [← hx1, ← hpb]
    clear hx1 hpb HPB HO3 p0 p1 lp fp d0 d1 ld t0 t1 t2 t3 t4 t5 lt_ ft_ o0 o1 o2 o3 o4 o5 o6 o7 o8 o9 o10 o11 o12 o13 o14 o15 lo
    have HFS : Hid (FsIn x1 o.fs A3 c3) := by
      obtain ⟨A2, c2, e2, k1, k2, k3, _⟩ := HFX.out.slice (flds_fit o.fs).len (by simp : (o.fs.map Fld.cells).length = o.fs.length)
      injection e2 with b1 b2 b3
      exact ⟨by rw [b3]; exact k1, by rw [b3]; simpa [maxLen] using k2, by omega, by rw [b1]; exact k3⟩
    have hwx : Fut w x1 := inferInstance
    have SM := fun (w' : World) (hq : Fut x1 w') => haveI : Fut w w' := Fut.tr hwx hq; pspec_any (w0 := x1) (w1 := w) (t.sid + 1) o.fs A3 c3 t.s t.As t.cs w' HFS.out HSC.out
    clear hwx
    unfold Sch.val at SM
    obtain ⟨d0, d1⟩ := At.z2 (HD.out.d.fut (w' := x1)).at0
    have ld := (HD.out.d.fut (w' := x1)).lt
    obtain ⟨t0, t1, t2, t3, t4, t5⟩ := At.z6 (HD.out.tb.fut (w' := x1)).at0
    have lt_ := (HD.out.tb.fut (w' := x1)).lt
    have ft_ := (HD.out.tb.fut (w' := x1)).free
    obtain ⟨o0, o1, o2, o3, o4, o5, o6, o7, o8, o9, o10, o11, o12, o13, o14, o15⟩ := At.zOp (HD.out.op.fut (w' := x1)).at0
    have lo := (HD.out.op.fut (w' := x1)).lt
    obtain ⟨p0, p1⟩ := At.z2 HPX.out.at0
    have lp := HPX.out.lt
    cases hb : specB (t.sid + 1) o.fs t.s with
    | false =>
      have HE : Hid (R = .error 5) := by show _ = _; rw [← HR.out, if_pos hb]
      rw [hb] at SM
      have SM := hide SM
      clear hb
      go_upto_region 1 with fail
      refine wp_region_held_drew (S := (fun w' => Step x1 w' ∧ (∀ b o, b < x1.heap.size → w'.cell? ⟨b, o, none⟩ = x1.cell? ⟨b, o, none⟩))) (by kernel_rfl) (by (try dsimp only); (first | exact ⟨hS1, hS2⟩ | exact ⟨Step.of, (bcell (fut _ _)).1⟩)) (fun hHeld => ?_)
      refine wT 0 21 (by assumption) ?_
      refine wT 1 22 (by assumption) ?_
      refine wT 2 23 (by assumption) ?_
      refine wT 3 24 (by assumption) ?_
      refine wT 4 25 (by assumption) ?_
      refine wT 5 26 (by assumption) ?_
      refine wT 6 27 (by assumption) ?_
      refine wT 7 28 (by assumption) ?_
      refine wpAnyH_ready (rs := [8]) (by kernel_rfl) (by simp) ?_
      refine AllReadyH.cons (o := ⟨some 29, _, _, _, _, _⟩) rfl (fun K hK => ?_) AllReadyH.nil
      obtain ⟨hS1, hS2⟩ := hHeld
      go_simp
      (go_at_call 55; (with_reducible refine (SM.out _ inferInstance).mono ?_); rintro e w5 ⟨rfl, hs5⟩)
      refine hK.out _ _ (by (try dsimp only); (first | exact ⟨hS1, hS2⟩ | exact ⟨Step.of, (bcell (fut _ _)).1⟩)) (fun hHeld => ?_)
      clear hK K
      (try simp only [Act.put, List.setIfInBounds_toArray, List.set_cons_zero, List.set_cons_succ])
      refine wT 9 30 (by assumption) ?_
      refine wpAnyH_ready (rs := [10]) (by kernel_rfl) (by simp) ?_
      refine AllReadyH.cons (o := ⟨some 31, _, _, _, _, _⟩) rfl (fun K hK => ?_) AllReadyH.nil
      obtain ⟨hS1, hS2⟩ := hHeld
      go_simp
      (go_at_call 122; (with_reducible refine (throw_yes _ _).mono ?_); rintro e w9 ⟨rfl, h9⟩; obtain rfl := h9.symm)
      exact ⟨rfl, by rw [HE.out]; exact ⟨Mt.step hg (fut w w5), rfl⟩⟩
    | true =>
      have HE : Hid (R = .ok ⟨t.s, t.sid + 1, o.fs, t.rs.map RowA.vs⟩) := by show _ = _; rw [← HR.out, if_neg (by rw [hb]; simp)]
      rw [hb] at SM
      have SM := hide SM
      clear hb
      go_upto_region 1 with fail
      refine wp_region_held_drew (S := (fun w' => Step x1 w' ∧ (∀ b o, b < x1.heap.size → w'.cell? ⟨b, o, none⟩ = x1.cell? ⟨b, o, none⟩))) (by kernel_rfl) (by (try dsimp only); (first | exact ⟨hS1, hS2⟩ | exact ⟨Step.of, (bcell (fut _ _)).1⟩)) (fun hHeld => ?_)
      refine wT 0 21 (by assumption) ?_
      refine wT 1 22 (by assumption) ?_
      refine wT 2 23 (by assumption) ?_
      refine wT 3 24 (by assumption) ?_
      refine wT 4 25 (by assumption) ?_
      refine wT 5 26 (by assumption) ?_
      refine wT 6 27 (by assumption) ?_
      refine wT 7 28 (by assumption) ?_
      refine wpAnyH_ready (rs := [8]) (by kernel_rfl) (by simp) ?_
      refine AllReadyH.cons (o := ⟨some 29, _, _, _, _, _⟩) rfl (fun K hK => ?_) AllReadyH.nil
      obtain ⟨hS1, hS2⟩ := hHeld
      go_simp
      (go_at_call 55; (with_reducible refine (SM.out _ inferInstance).mono ?_); rintro e w5 ⟨rfl, hs5⟩)
      refine hK.out _ _ (by (try dsimp only); (first | exact ⟨hS1, hS2⟩ | exact ⟨Step.of, (bcell (fut _ _)).1⟩)) (fun hHeld => ?_)
      clear hK K
      (try simp only [Act.put, List.setIfInBounds_toArray, List.set_cons_zero, List.set_cons_succ])
      refine wT 9 30 (by assumption) ?_
      refine wpAnyH_ready (rs := [10]) (by kernel_rfl) (by simp) ?_
      refine AllReadyH.cons (o := ⟨some 31, _, _, _, _, _⟩) rfl (fun K hK => ?_) AllReadyH.nil
      obtain ⟨hS1, hS2⟩ := hHeld
      go_simp
      (go_at_call 122; (with_reducible refine (throw_no _ _).mono ?_); rintro e w9 ⟨rfl, h9⟩; obtain rfl := h9.symm)
      refine hK.out _ _ (by (try dsimp only); (first | exact ⟨hS1, hS2⟩ | exact ⟨Step.of, (bcell (fut _ _)).1⟩)) (fun hHeld => ?_)
      clear hK K
      (try simp only [Act.put, List.setIfInBounds_toArray, List.set_cons_zero, List.set_cons_succ])
      refine wpAnyH_done (by kernel_rfl) ?_ _
      clear p0 p1 lp; clear d0 d1 ld t0 t1 t2 t3 t4 t5 lt_ ft_ o0 o1 o2 o3 o4 o5 o6 o7 o8 o9 o10 o11 o12 o13 o14 o15 lo
      obtain ⟨x5, hx5⟩ : ∃ x : World, x = w5 := ⟨_, rfl⟩
      rw [← hx5] at hs5 ⊢
      clear hx5
      have HPX5 := hide (HPX.out.fut (w' := x5))
      have HT5 := hide (HD.out.tb.fut (w' := x5))
      have HTF : Hid (Blk (((x5.setCell ⟨T, 3, none⟩ (.int .i64 (t.sid + 1))).setCell ⟨T, 4, none⟩ (.slice A3 o.fs.length c3)).drew) T 30 [.int .i64 t.s.id, .slice t.As t.s.cols.length t.cs, .int .i64 t.s.next, .int .i64 (t.sid + 1), .slice A3 o.fs.length c3, .slice t.Ar t.rs.length t.cr]) := (HT5.out.set_ 3 (.int .i64 (t.sid + 1))).set_ 4 (.slice A3 o.fs.length c3)
      have HOF : Hid (TbOwnR (((x5.setCell ⟨T, 3, none⟩ (.int .i64 (t.sid + 1))).setCell ⟨T, 4, none⟩ (.slice A3 o.fs.length c3)).drew) g ⟨t.s, t.As, t.cs, t.sid + 1, o.fs, A3, c3, t.rs, t.Ar, t.cr⟩) := by
        have r0 : TbOwnR x5 g ⟨t.s, t.As, t.cs, t.sid + 1, o.fs, A3, c3, t.rs, t.Ar, t.cr⟩ := ⟨(HD.out.own.r.fut (w' := x5)).cols, (HFX.out.fut (w' := x5)).more hg, (HD.out.own.r.fut (w' := x5)).rows⟩
        exact ((r0.setT HT5.out 3 (.int .i64 (t.sid + 1))).setT (HT5.out.set_ 3 (.int .i64 (t.sid + 1))) 4 (.slice A3 o.fs.length c3)).fut
      have HC2 : Hid (∀ (b o' : Nat), b ≠ T → (((x5.setCell ⟨T, 3, none⟩ (.int .i64 (t.sid + 1))).setCell ⟨T, 4, none⟩ (.slice A3 o.fs.length c3)).drew).cell? ⟨b, o', none⟩ = x5.cell? ⟨b, o', none⟩) := fun b o' hn => by
        have e0 := Below.heap_setCell x5 ⟨T, 3, none⟩ (.int .i64 (t.sid + 1)) b hn
        have e1 := Below.heap_setCell (x5.setCell ⟨T, 3, none⟩ (.int .i64 (t.sid + 1))) ⟨T, 4, none⟩ (.slice A3 o.fs.length c3) b hn
        exact World.cell?_of_block (w := x5) (e1.trans e0)
      have hpT : pb ≠ T := HPX5.out.ne_ HT5.out (by decide)
      have hDT : D ≠ T := HD.out.dT
      obtain ⟨d0, d1⟩ := At.z2 (HD.out.d.fut (w' := x5)).at0
      have ld := (HD.out.d.fut (w' := x5)).lt
      obtain ⟨t0, t1, t2, t3, t4, t5⟩ := At.z6 (HD.out.tb.fut (w' := x5)).at0
      have lt_ := (HD.out.tb.fut (w' := x5)).lt
      have ft_ := (HD.out.tb.fut (w' := x5)).free
      obtain ⟨o0, o1, o2, o3, o4, o5, o6, o7, o8, o9, o10, o11, o12, o13, o14, o15⟩ := At.zOp (HD.out.op.fut (w' := x5)).at0
      have lo := (HD.out.op.fut (w' := x5)).lt
      obtain ⟨p0, p1⟩ := At.z2 HPX5.out.at0
      have lp := HPX5.out.lt
      clear HPX5 HT5
      go_upto_region 2 with fail
      refine wp_region_held_drew (S := (fun w' => True ∧ ∀ b o, b < x5.heap.size → b ≠ T → w'.cell? ⟨b, o, none⟩ = x5.cell? ⟨b, o, none⟩)) (by kernel_rfl) (by (try dsimp only); (first | exact ⟨hS1, hS2⟩ | exact ⟨trivial, fun b o h _ => rfl⟩)) (fun hHeld => ?_)
      refine wT 0 32 (by assumption) ?_
      refine wT 4 36 (by assumption) ?_
      refine wT 1 33 (by assumption) ?_
      refine wT 2 34 (by assumption) ?_
      refine wT 3 35 (by assumption) ?_
      refine wT 5 37 (by assumption) ?_
      refine wT 6 38 (by assumption) ?_
      refine wpAnyH_ready (rs := [7]) (by kernel_rfl) (by simp) ?_
      refine AllReadyH.cons (o := ⟨none, _, _, _, _, _⟩) rfl (fun K hK => ?_) AllReadyH.nil
      go_simp
      refine hK.out _ _ (by (try dsimp only); (with_reducible exact ⟨trivial, fun b o h h1 => HC2.out b o h1⟩)) (fun hHeld => ?_)
      clear hK K
      (try simp only [Act.put, List.setIfInBounds_toArray, List.set_cons_zero, List.set_cons_succ])
      refine wpAnyH_done (by kernel_rfl) ?_ _
      clear p0 p1 lp HC2 d0 d1 ld t0 t1 t2 t3 t4 t5 lt_ ft_ o0 o1 o2 o3 o4 o5 o6 o7 o8 o9 o10 o11 o12 o13 o14 o15 lo
      go_wp2_with fail
      go_end0
      rw [HE.out]
      exact ⟨((Mt.step hg (fut w x5)).trans ((Mt.cell x5 HD.out.gT 3 _).trans (Mt.cell _ HD.out.gT 4 _))).drew, rfl, ⟨t.s, t.As, t.cs, t.sid + 1, o.fs, A3, c3, t.rs, t.Ar, t.cr⟩, rfl, HTF.out, HOF.out⟩
set_option maxRecDepth 100000 in
set_option maxHeartbeats 4000000 in
theorem run_part {w1 : World} (g D T O : Nat) (t : TbA) (o : OpA) (w : World) (h : Doer w g D T O t o) (ho : OpIn w1 o) [f1 : Fut w1 w] (hf : TbFine t) (hg : g ≤ w.heap.size) (hs0 : 0 ≤ t.sid) (hs1 : t.sid ≤ 2147483647) (hk : o.kind = 7) :
    Calls Tryz.prog 44 #[.pointer (some ⟨D, 0, none⟩)] w fun e w' => RunR g T w (partP25 t.tb o.op) e w' := by
  have CC := part_any g D T O t o w h ho hf hg hs0 hs1
  have HD := hide h
  obtain ⟨d0, d1⟩ := At.z2 (HD.out.d.fut (w' := w)).at0
  have ld := (HD.out.d.fut (w' := w)).lt
  obtain ⟨t0, t1, t2, t3, t4, t5⟩ := At.z6 (HD.out.tb.fut (w' := w)).at0
  have lt_ := (HD.out.tb.fut (w' := w)).lt
  have ft_ := (HD.out.tb.fut (w' := w)).free
  obtain ⟨o0, o1, o2, o3, o4, o5, o6, o7, o8, o9, o10, o11, o12, o13, o14, o15⟩ := At.zOp (HD.out.op.fut (w' := w)).at0
  have lo := (HD.out.op.fut (w' := w)).lt
  unfold TbA.cells at *
  rw [hk] at o0
  clear hk
  cases hR : partP25 t.tb o.op with
  | error c =>
    rw [hR] at CC
    have CC := hide CC
    clear hR
    go_enter Tryz.func44, Tryz.ntmps44
    go_wp2_with (go_at_call 94; (with_reducible refine CC.out.mono ?_); rintro e w3 ⟨hmt, rfl⟩; have HMT := hide hmt; clear hmt)
    exact ⟨rfl, HMT.out, rfl⟩
  | ok u =>
    rw [hR] at CC
    have CC := hide CC
    clear hR
    go_enter Tryz.func44, Tryz.ntmps44
    go_wp2_with (go_at_call 94; (with_reducible refine CC.out.mono ?_); rintro e w3 ⟨hmt, rfl, t2, ht2, hb2, ho2⟩; have HMT := hide hmt; have HT2 := hide ht2; have HB2 := hide hb2; have HO2 := hide ho2; clear hmt ht2 hb2 ho2)
    go_end0
    exact ⟨HMT.out, rfl, t2, HT2.out, HB2.out, HO2.out⟩
end Go.Proofs.YtnphokhehacfnaaGreatDoor

namespace Go.Proofs.YtnphokhehacfnaaGreatDoor
open Go.RowKit

theorem run_any25 {w1 : World} (g D T O : Nat) (t : TbA) (o : OpA) (w : World) (h : Doer w g D T O t o) (ho : OpIn w1 o) [f1 : Fut w1 w] (hm : tabB t.tb = true) (hf : TbFine t) (hg : g ≤ w.heap.size) (h0 : ¬ o.kind < 0) (h8 : ¬ 8 < o.kind) :
    Calls Tryz.prog 44 #[.pointer (some ⟨D, 0, none⟩)] w fun e w' => RunR g T w (runP t.tb o.op) e w' := by
  obtain ⟨hrow, hn1, hn12, hn4, hs0, hs1⟩ := tb_rows hm
  have hc : o.kind = 0 ∨ o.kind = 1 ∨ o.kind = 2 ∨ o.kind = 3 ∨ o.kind = 4 ∨ o.kind = 5 ∨ o.kind = 6 ∨ o.kind = 7 ∨ o.kind = 8 := by omega
  have e : runP t.tb o.op = if o.kind = 0 then growP t.tb o.op else if o.kind = 1 ∨ o.kind = 2 then takeP t.tb o.op else if o.kind = 3 then updateP t.tb o.op else if o.kind = 4 then addcP t.tb o.op else if o.kind = 5 then dropP t.tb o.op else if o.kind = 6 then shapeP t.tb (renameR t.s o.col o.name) else if o.kind = 7 then partP25 t.tb o.op else .ok t.tb := rfl
  rw [e]
  rcases hc with hk | hk | hk | hk | hk | hk | hk | hk | hk
  · rw [if_pos hk]
    exact run_add g D T O t o w h ho hf hg hn12 hn4 hk
  · rw [if_neg (by omega), if_pos (by omega)]
    exact run_del g D T O t o w h ho hf hg hk
  · rw [if_neg (by omega), if_pos (by omega)]
    exact run_mark g D T O t o w h ho hf hg hk
  · rw [if_neg (by omega), if_neg (by omega), if_pos hk]
    exact run_upd g D T O t o w h ho hf hg hn12 hn4 hrow hk
  · rw [if_neg (by omega), if_neg (by omega), if_neg (by omega), if_pos hk]
    exact run_addc g D T O t o w h ho hf hg hn1 hn12 hn4 hrow hk
  · rw [if_neg (by omega), if_neg (by omega), if_neg (by omega), if_neg (by omega), if_pos hk]
    exact run_drop g D T O t o w h ho hf hg hn12 hn4 hrow hk
  · rw [if_neg (by omega), if_neg (by omega), if_neg (by omega), if_neg (by omega), if_neg (by omega), if_pos hk]
    exact run_ren g D T O t o w h ho hf hg hk
  · rw [if_neg (by omega), if_neg (by omega), if_neg (by omega), if_neg (by omega), if_neg (by omega), if_neg (by omega), if_pos hk]
    exact run_part g D T O t o w h ho hf hg hs0 hs1 hk
  · rw [if_neg (by omega), if_neg (by omega), if_neg (by omega), if_neg (by omega), if_neg (by omega), if_neg (by omega), if_neg (by omega)]
    exact run_comp g D T O t o w h ho hf hg hk
/-- Apply of any operation on any table. -/
theorem apply_any25 {w0 w1 : World} (t : TbA) (o : OpA) (w : World) (hin : TbIn w0 t) (ho : OpIn w1 o) [f0 : Fut w0 w] [f1 : Fut w1 w] :
    Calls Tryz.prog 13 #[t.val, .agg #[.int .i64 o.kind, .string o.txn, .slice o.Ac o.cols.length o.cc, .slice o.Ar o.rows.length o.cr, .slice o.An o.ns.length o.cn, .string o.col, .string o.name, .int .i64 o.ck, .int .i64 o.v.kind, .int .i64 o.v.i, .bool o.v.b, .string o.v.s, .slice o.Af o.fs.length o.cf, .int .i64 o.ver, .int .i64 o.time, .int .i64 o.agg]] w (ApplyR w (applyP t.tb o.op)) := by
  by_cases hk : o.kind < 0 ∨ 8 < o.kind
  · rw [applyP_form (.inr hk)]
    exact apply_form t o w hin (.inr hk)
  · refine apply_by t o w hin (by omega) (by omega) (fun c hc => run_err hc) fun hm g D T O t' w' hq hd he hg => ?_
    haveI := Fut.tr f1 hq
    rw [← he] at hm ⊢
    exact run_any25 g D T O t' o w' hd ho hm (hin.fine.of_tb he) hg (by omega) (by omega)
end Go.Proofs.YtnphokhehacfnaaGreatDoor

namespace Go.Proofs.YtnphokhehacfnaaGreatDoor
open Go.RowKit

theorem run_ref (ys : List Int) : ∀ k, k < 14 → runP (tab2 ys) (refOps.getD k ⟨0, [], [], [], e0, e0, 0, no25, [], 0⟩) = .error (refWant.getD k 0)
  | 0, _ => by kernel_rfl
  | 1, _ => by kernel_rfl
  | 2, _ => by kernel_rfl
  | 3, _ => by kernel_rfl
  | 4, _ => by kernel_rfl
  | 5, _ => by kernel_rfl
  | 6, _ => by kernel_rfl
  | 7, _ => by
    have e : runP (tab2 ys) (refOps.getD 7 ⟨0, [], [], [], e0, e0, 0, no25, [], 0⟩) = updateP (tab2 ys) ⟨3, [], [], [], ⟨#[122]⟩, e0, 0, kv25 1, [], 0⟩ := rfl
    have e2 : yesP (tab2 ys) [] = .ok (selR [] sb25 (ys.map row2)).1 := by rw [yesP, if_neg (show ¬ checkE [] (tab2 ys).s ≠ 0 from fun h => h none_check)]; rfl
    rw [e, upd_eq, if_neg (by rintro (h | h); (rw [show predB [] = true from none_pred] at h; cases h); (rw [show valueB (kv25 1) = true from kv_value 1] at h; cases h))]
    show (match yesP (tab2 ys) [] with | .error c => Except.error c | .ok l => updC sb25 0 [] (ys.map row2) ⟨#[122]⟩ (kv25 1) l) = _
    rw [e2]
    show updC sb25 0 [] (ys.map row2) ⟨#[122]⟩ (kv25 1) _ = Except.error 5
    rw [updC, if_pos (by decide +kernel)]
  | 8, _ => by
    have e : runP (tab2 ys) (refOps.getD 8 ⟨0, [], [], [], e0, e0, 0, no25, [], 0⟩) = updateP (tab2 ys) ⟨3, [], [], [], ⟨#[98]⟩, e0, 0, kv25 1, [], 0⟩ := rfl
    have e2 : yesP (tab2 ys) [] = .ok (selR [] sb25 (ys.map row2)).1 := by rw [yesP, if_neg (show ¬ checkE [] (tab2 ys).s ≠ 0 from fun h => h none_check)]; rfl
    rw [e, upd_eq, if_neg (by rintro (h | h); (rw [show predB [] = true from none_pred] at h; cases h); (rw [show valueB (kv25 1) = true from kv_value 1] at h; cases h))]
    show (match yesP (tab2 ys) [] with | .error c => Except.error c | .ok l => updC sb25 0 [] (ys.map row2) ⟨#[98]⟩ (kv25 1) l) = _
    rw [e2]
    show updC sb25 0 [] (ys.map row2) ⟨#[98]⟩ (kv25 1) _ = Except.error 5
    rw [updC, if_neg (by decide +kernel), if_pos (by kernel_rfl)]
  | 9, _ => by kernel_rfl
  | 10, _ => by kernel_rfl
  | 11, _ => by kernel_rfl
  | 12, _ => by kernel_rfl
  | 13, _ => by kernel_rfl
  | n + 14, h => absurd h (by omega)
theorem ref_kind : ∀ k, k < 14 → 0 ≤ (refOps.getD k ⟨0, [], [], [], e0, e0, 0, no25, [], 0⟩).kind ∧ (refOps.getD k ⟨0, [], [], [], e0, e0, 0, no25, [], 0⟩).kind ≤ 8 := by decide +kernel
/-- Each leaves the table and tells its code. -/
theorem ref_apply (ys : List Int) (hl : ys.length ≤ 20) (k : Nat) (hk : k < 16) : applyP (tab2 ys) (refOps.getD k ⟨0, [], [], [], e0, e0, 0, no25, [], 0⟩) = (tab2 ys, refWant.getD k 0) := by
  by_cases h : k < 14
  · have h2 := ref_kind k h
    rw [applyP_run (tab2_may hl) (by omega) (by omega), run_ref ys k h]
  · have h3 : k = 14 ∨ k = 15 := by omega
    rcases h3 with rfl | rfl
    · exact applyP_form (.inr (.inr (by decide +kernel)))
    · exact applyP_form (.inr (.inl (by decide +kernel)))
theorem sum_none (ys : List Int) : sumP ((ys.map fun _ => Val.zero).map clean) = (Val.zero, 0) := by
  have h1 : ((ys.map fun _ => Val.zero).map clean).any badK = false := by
    rw [List.any_eq_false]
    intro v hv
    obtain ⟨u, hu, rfl⟩ := List.mem_map.1 hv
    obtain ⟨_, _, rfl⟩ := List.mem_map.1 hu
    decide
  have h2 : ((ys.map fun _ => Val.zero).map clean).any someK = false := by
    rw [List.any_eq_false]
    intro v hv
    obtain ⟨u, hu, rfl⟩ := List.mem_map.1 hv
    obtain ⟨_, _, rfl⟩ := List.mem_map.1 hu
    decide
  rw [sumP, if_neg (by rw [h1]; simp), if_pos h2]
theorem sumB2 {ys : List Int} (hl : ys.length ≤ 20) : readT (tab2 ys) opSumB = (0, Val.zero) := by
  have ht := tab2_may hl
  have hr : readA (tab2 ys) opSumB = .ok Val.zero := by
    rw [read_eq, if_neg (by
      rintro (h | h | h | h)
      · exact h rfl
      · rw [show opSumB.ns = [] from rfl, none_pred] at h; cases h
      · exact absurd h (by show ¬ (2 : Int) < 0; omega)
      · exact absurd h (by show ¬ (4 : Int) < 2; omega))]
    rw [show yesP (tab2 ys) opSumB.ns = .ok (selR [] sb25 (ys.map row2)).1 by rw [yesP, if_neg (show ¬ checkE opSumB.ns (tab2 ys).s ≠ 0 from fun h => h none_check)]; rfl]
    show readB (tab2 ys) opSumB (selR [] sb25 (ys.map row2)).1 = _
    rw [readB, if_neg (by show ¬ ([] : List ByteArray).all _ = false; simp), if_neg (by show ¬ idx (named ⟨#[98]⟩) sb25.cols < 0; decide +kernel)]
    rw [show (tab2 ys).rows = ys.map row2 from rfl, taken2 none_check]
    rw [show ((ys.filter (yesN [])).map row2).map (pickC (idx (named opSumB.col) (tab2 ys).s.cols).toNat) = (ys.filter (yesN [])).map fun _ => Val.zero by
      rw [List.map_map]
      refine List.map_congr_left fun x _ => ?_
      show pickC (idx (named ⟨#[98]⟩) sb25.cols).toNat (row2 x) = Val.zero
      rw [show (idx (named ⟨#[98]⟩) sb25.cols).toNat = 1 by decide +kernel]
      rfl]
    have ha : aggP opSumB.agg ((ys.filter (yesN [])).map fun _ => Val.zero) = (Val.zero, 0) := by
      rw [aggP, if_neg (by show ¬ (2 : Int) = 0; omega), if_neg (by show ¬ (2 : Int) = 1; omega), if_pos (by rfl)]
      exact sum_none _
    rw [readC, ha]
    rfl
  rw [readT, if_neg (by rw [ht]; simp), hr]
end Go.Proofs.YtnphokhehacfnaaGreatDoor

namespace Go.Proofs.YtnphokhehacfnaaGreatDoor
open Go.RowKit

theorem same_refl {t : Tb} (h : tabB t = true) : SameT t t := ⟨h, h, rfl, rfl, rfl, rfl, rfl, List.Perm.refl _⟩
end Go.Proofs.YtnphokhehacfnaaGreatDoor

