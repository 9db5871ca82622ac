/-
  Texts put together: what the packs struck of Gb, D8, Df, Dn, Kbm, Ds, Dv.
-/
import Derived.WalkKit
import Derived.ProofKit
import Derived.OpenShut
import Derived.LaidMore
import Derived.Lay
import Derived.Below
import Derived.ChangeSame
import Derived.SevenTiedAt
import Derived.Stop.Joined
import Derived.Deep.DeepHandedRow
import Derived.WalkSpells
import Derived.WalkLawsBesides
import Derived.BigQuiet
import Derived.Deep.QuietTactic
import Derived.Outline
import Derived.Lib.Hide
import Derived.Maps.AppendAt
import Derived.Deep.RegionLaw
import Derived.StillTailTactics
import Derived.Deep.RegionHeld3
import Derived.Deep.Slices
import Derived.Shelf.Strings.SlTrimAscii
import Derived.Deep.Cut
import Derived.Deep.CutBlock
import Derived.Laws.BitsAllLaws
import Derived.BigRegion
import Derived.Deep.DeepCutAuto
import Derived.Tactics2
import Derived.Defers
import Derived.Recover
import Derived.Laws.Externs
import Derived.WalkSmall
import Derived.Test.YtnphokhehacfnaaGreatDoorPz00
import Derived.Test.YtnphokhehacfnaaGreatDoorPz01
import Derived.Test.YtnphokhehacfnaaGreatDoorPz02
import Derived.Test.YtnphokhehacfnaaGreatDoorPz03
import Derived.Test.YtnphokhehacfnaaGreatDoorPz04
import Derived.Test.YtnphokhehacfnaaGreatDoorPz05
import Derived.Test.YtnphokhehacfnaaGreatDoorPz06
import Derived.Test.YtnphokhehacfnaaGreatDoorPz07
import Derived.Test.YtnphokhehacfnaaGreatDoorPz08
import Derived.Test.YtnphokhehacfnaaGreatDoorPz09
import Derived.Test.YtnphokhehacfnaaGreatDoorPz10
import Derived.Test.YtnphokhehacfnaaGreatDoorPz11
import Derived.Test.YtnphokhehacfnaaGreatDoorPz12
import Derived.Test.YtnphokhehacfnaaGreatDoorPz13
import Derived.Test.YtnphokhehacfnaaGreatDoorPz14
import Derived.Test.YtnphokhehacfnaaGreatDoorPz15
import Derived.Test.YtnphokhehacfnaaGreatDoorPz16
import Derived.Test.YtnphokhehacfnaaGreatDoorPz17
import Derived.Test.YtnphokhehacfnaaGreatDoorPz18
import Derived.Test.YtnphokhehacfnaaGreatDoorPz19
import Derived.Test.YtnphokhehacfnaaGreatDoorPz20
import Derived.Test.YtnphokhehacfnaaGreatDoorPz21
import Derived.Test.YtnphokhehacfnaaGreatDoorPz22
import Derived.Test.YtnphokhehacfnaaGreatDoorTz00
namespace Go.Proofs.YtnphokhehacfnaaGreatDoor
open Go.RowKit

theorem rangeI_len (a : Nat) : ∀ b, (rangeI a b).length = b - a
  | 0 => by simp [rangeI]
  | b + 1 => by
    have := rangeI_len a b
    rw [rangeI]
    split
    · simp; omega
    · simp; omega
theorem rangeI_self (a : Nat) : rangeI a a = [] := by
  cases a with
  | zero => rfl
  | succ a => rw [rangeI, if_neg (by omega)]
theorem rangeI_succ {a b : Nat} (h : a ≤ b) : rangeI a (b + 1) = rangeI a b ++ [(b : Int)] := by rw [rangeI, if_pos h]
theorem stW_none {many : Int} {at_ : List Int} {j : Nat} (h : stW many at_ j = none) : ∀ d, stW many at_ (j + d) = none
  | 0 => h
  | d + 1 => by rw [show j + (d + 1) = (j + d) + 1 from rfl, stW, stW_none h d]
theorem stW_bd {many : Int} {at_ : List Int} (hm : 0 ≤ many ∧ many ≤ 4096) : ∀ j st, stW many at_ j = some st → (st.1 : Int) ≤ many ∧ st.2.length ≤ st.1
  | 0, st, h => by simp [stW] at h; subst h; exact ⟨hm.1, Nat.le_refl _⟩
  | j + 1, st, h => by
    rw [stW] at h
    cases hj : stW many at_ j with
    | none => rw [hj] at h; simp at h
    | some s0 =>
      rw [hj] at h
      have ih := stW_bd hm j s0 hj
      simp only at h
      split at h
      · simp at h
      · rename_i hc
        obtain rfl := Option.some.inj h
        have := rangeI_len s0.1 (at_.getD j 0).toNat
        refine ⟨by simp only []; omega, ?_⟩
        simp only [List.length_append, this]
        omega
theorem stW_step {many : Int} {at_ : List Int} {j n xn : Nat} {o : List Int} (h : stW many at_ j = some (n, o)) (hx : at_[j]? = some (xn : Int)) (h1 : n ≤ xn) (h2 : (xn : Int) < many) : stW many at_ (j + 1) = some (xn + 1, o ++ rangeI n xn) := by
  have hg : at_.getD j 0 = (xn : Int) := by rw [List.getD_eq_getElem?_getD, hx]; rfl
  rw [stW, h]
  simp only [hg]
  rw [if_neg (by omega)]
  simp
theorem stW_bad {many : Int} {at_ : List Int} {j n : Nat} {x : Int} {o : List Int} (h : stW many at_ j = some (n, o)) (hx : at_[j]? = some x) (hb : x < (n : Int) ∨ many ≤ x) : stW many at_ at_.length = none := by
  have hg : at_.getD j 0 = x := by rw [List.getD_eq_getElem?_getD, hx]; rfl
  have h1 : stW many at_ (j + 1) = none := by
    rw [stW, h]
    simp only [hg]
    rw [if_pos hb]
  have hj := (List.getElem?_eq_some_iff.1 hx).1
  have := stW_none h1 (at_.length - (j + 1))
  rwa [show j + 1 + (at_.length - (j + 1)) = at_.length by omega] at this

set_option maxRecDepth 100000 in
set_option maxHeartbeats 16000000 in
theorem pwithout_any {w0 : World} (many : Int) (at_ : List Int) (Aa : Option Addr) (ca : Nat) (w : World) (ha : SlAt w0 w0.heap.size 1 Aa (intCells at_)) [f0 : Fut w0 w] (hal : at_.length ≤ 4611686018427387904) :
    Calls Tryz.prog 140 #[.int .i64 many, .slice Aa at_.length ca] w fun e w' => ∃ (A' : Option Addr) (c' : Nat), e = .returned (.tuple #[.slice A' (withoutR many at_).1.length c', .int .i64 (withoutR many at_).2]) ∧ Own w' w.heap.size 3 1 (.slice A' (withoutR many at_).1.length c') (intCells (withoutR many at_).1) ∧ Step w w' := by
  have z0 := f0.below.size
  obtain ⟨T, hT⟩ : ∃ T, withoutR many at_ = T := ⟨_, rfl⟩
  have HT := hide hT
  rw [hT]
  clear hT
  by_cases h0 : many < 0
  · obtain rfl : T = ([], 1600) := by rw [← HT.out, withoutR, if_pos (.inl h0)]
    go_enter Tryz.func140, Tryz.ntmps140
    go_wp2_with fail
    go_ret2
    exact ⟨none, 0, rfl, Own.nil_ _ _ _ _, Step.of⟩
  · by_cases h1 : 4096 < many
    · obtain rfl : T = ([], 1600) := by rw [← HT.out, withoutR, if_pos (.inr h1)]
      go_enter Tryz.func140, Tryz.ntmps140
      go_wp2_with fail
      go_ret2
      exact ⟨none, 0, rfl, Own.nil_ _ _ _ _, Step.of⟩
    · obtain ⟨M, rfl⟩ : ∃ M : Nat, many = (M : Int) := ⟨many.toNat, by omega⟩
      have hM : M ≤ 4096 := by omega
      have HNB : Hid (¬ ((M : Int) < 0 ∨ 4096 < (M : Int))) := by show ¬ _; omega
      have HBD := hide (stW_bd (many := (M : Int)) (at_ := at_) ⟨by omega, by omega⟩)
      go_enter Tryz.func140, Tryz.ntmps140
      go_wp2_with fail
      clear h0 h1
      go_loopw [6, 7, 9, 18] (fun out nx _ i wr => ∃ (j n m : Nat) (A' : Option Addr) (c' : Nat) (o : List Int), j ≤ at_.length ∧ i = .int .i64 j ∧ Hid (stW (M : Int) at_ j = some (n, o)) ∧ nx = .int .i64 n ∧ out = .slice A' m c' ∧ Hid (o.length = m) ∧ Own wr w.heap.size 3 1 (.slice A' m c') (intCells o) ∧ Step w wr) (fun _ _ _ i _ => at_.length - (intOf i).toNat)
      case atStart => exact ⟨0, 0, 0, none, 0, [], Nat.zero_le _, rfl, rfl, rfl, rfl, rfl, Own.nil_ _ _ _ _, Step.of⟩
      case round =>
        obtain ⟨j, n, m, A', c', o, hj, rfl, HS, rfl, rfl, HM, hown, hst⟩ := hrel
        have HO := hide hown; clear hown
        obtain ⟨wo, rfl⟩ : ∃ x : World, x = wr := ⟨_, rfl⟩
        have hzo := hst.size
        have hnb := HBD.out j (n, o) HS.out
        have hn1 : (n : Int) ≤ (M : Int) := hnb.1
        have hn2 : o.length ≤ n := hnb.2
        have HMN : Hid (m ≤ n) := by show m ≤ n; have := HM.out; omega
        clear hnb hn2
        by_cases hlt : j < at_.length
        · obtain ⟨b, off, rfl, hb, hc⟩ := ha.elem (w' := wo) inferInstance (k := j) (by rw [intCells_len]; exact hlt)
          obtain ⟨x, hx⟩ : ∃ x, at_[j]? = some x := ⟨_, List.getElem?_eq_getElem hlt⟩
          have x0 := At.l1 (hc j [.int .i64 x] (by simp [intCells, hx]))
          simp only [Nat.mul_one] at x0
          have hlb : b < wo.heap.size := by omega
          have hjl : (j : Int) < (at_.length : Int) := by omega
          have HX := hide hx
          clear hc hx
          by_cases hx1 : x < (n : Int)
          · have HBAD := hide (stW_bad HS.out HX.out (.inl hx1))
            obtain rfl : T = ([], 1600) := by rw [← HT.out, withoutR, if_neg HNB.out, HBAD.out]
            go_wp2_with fail
            go_ret2
            exact ⟨none, 0, rfl, Own.nil_ _ _ _ _, Step.of⟩
          · by_cases hx2 : (M : Int) ≤ x
            · have HBAD := hide (stW_bad HS.out HX.out (.inr hx2))
              obtain rfl : T = ([], 1600) := by rw [← HT.out, withoutR, if_neg HNB.out, HBAD.out]
              go_wp2_with fail
              go_ret2
              exact ⟨none, 0, rfl, Own.nil_ _ _ _ _, Step.of⟩
            · obtain ⟨xn, rfl⟩ : ∃ xn : Nat, x = (xn : Int) := ⟨x.toNat, by omega⟩
              have hnx : n ≤ xn := by omega
              have hxM : xn < M := by omega
              have HST := hide (stW_step HS.out HX.out hnx (by omega))
              go_wp2_with fail
              clear x0 hlb hx1 hx2
              go_loopw [6, 7] (fun out nx wr => ∃ (q m' : Nat) (A'' : Option Addr) (c'' : Nat), n ≤ q ∧ q ≤ xn ∧ nx = .int .i64 q ∧ out = .slice A'' m' c'' ∧ Hid ((o ++ rangeI n q).length = m') ∧ Own wr w.heap.size 3 1 (.slice A'' m' c'') (intCells (o ++ rangeI n q)) ∧ Step w wr) (fun _ nx _ => xn - (intOf nx).toNat)
              case atStart => exact ⟨n, m, A', c', Nat.le_refl _, hnx, rfl, rfl, by show _ = _; rw [rangeI_self, List.append_nil, HM.out], by rw [rangeI_self, List.append_nil]; exact HO.out, Step.of⟩
              case round =>
                obtain ⟨q, m', A'', c'', hq1, hq2, rfl, rfl, HM', hown, hst'⟩ := hrel
                have HO := hide hown; clear hown
                obtain ⟨wi, rfl⟩ : ∃ x : World, x = wr := ⟨_, rfl⟩
                have hzi := hst'.size
                by_cases hqx : q < xn
                · have hqi : (q : Int) < (xn : Int) := by omega
                  have HL : Hid ((intCells (o ++ rangeI n q)).length = m') := by show _ = _; rw [intCells_len]; exact HM'.out
                  have hmq : m' ≤ 8192 := by
                    have h1 := HM'.out
                    have h2 := HM.out
                    have h3 := HMN.out
                    rw [List.length_append, rangeI_len] at h1
                    omega
                  have HNew := hide (SlAt.one wi 1 [.int .i64 (q : Int)] 3)
                  have HOw := hide (HO.out.alloc (.cells #[.int .i64 (q : Int)] 3))
                  go_wp2_with (at_builtin; go_loud (refine wpList_append_sl rfl (.tmp 35) (.tmp 37) 68 rfl eiInt (base := w.heap.size) (xs := intCells (o ++ rangeI n q)) rfl HOw.out (int_fit _) (ys := [[.int .i64 (q : Int)]]) rfl (by simp) HNew.out (int_fit [(q : Int)]) (by rw [HL.out]; show (m' + 1) * 8 ≤ _; omega) (fut w (wi.alloc (.cells #[.int .i64 (q : Int)] 3))).size (N := m' + 1) (by rw [HL.out]; rfl) ?_; intro A5 c5 w5 hq5 hq6 hown5 hgr5 hbel5; have H5 := hide hown5; have HB5 := hide hbel5; clear hown5 hgr5 hbel5))
                  go_roundw
                  case rel =>
                    refine ⟨q + 1, m' + 1, A5, c5, by omega, by omega, by go_num, rfl, ?_, ?_, ⟨(fut w (wi.alloc (.cells #[.int .i64 (q : Int)] 3))).trans HB5.out⟩⟩
                    · show _ = _
                      rw [rangeI_succ hq1, ← List.append_assoc, List.length_append, HM'.out]; rfl
                    · rw [rangeI_succ hq1, ← List.append_assoc]
                      have := H5.out
                      simpa [intCells] using this
                  case measure => simp [intOf]; omega
                · obtain rfl : q = xn := by omega
                  have hqi : ¬ (q : Int) < (q : Int) := by omega
                  go_wp2_with fail
                  go_roundw
                  case rel => exact ⟨j + 1, q + 1, m', A'', c'', o ++ rangeI n q, by omega, by go_num, HST, by go_num, rfl, HM', HO.out, Step.of⟩
                  case measure => simp [intOf]; omega
        · obtain rfl : j = at_.length := by omega
          obtain rfl : T = (o ++ rangeI n M, 0) := by rw [← HT.out, withoutR, if_neg HNB.out, HS.out]; rfl
          go_wp2_with fail
          go_loopw [6, 7] (fun out nx wr => ∃ (q m' : Nat) (A'' : Option Addr) (c'' : Nat), n ≤ q ∧ q ≤ M ∧ nx = .int .i64 q ∧ out = .slice A'' m' c'' ∧ Hid ((o ++ rangeI n q).length = m') ∧ Own wr w.heap.size 3 1 (.slice A'' m' c'') (intCells (o ++ rangeI n q)) ∧ Step w wr) (fun _ nx _ => M - (intOf nx).toNat)
          case atStart => exact ⟨n, m, A', c', Nat.le_refl _, by omega, rfl, rfl, by show _ = _; rw [rangeI_self, List.append_nil, HM.out], by rw [rangeI_self, List.append_nil]; exact HO.out, Step.of⟩
          case round =>
            obtain ⟨q, m', A'', c'', hq1, hq2, rfl, rfl, HM', hown, hst'⟩ := hrel
            have HO := hide hown; clear hown
            obtain ⟨wi, rfl⟩ : ∃ x : World, x = wr := ⟨_, rfl⟩
            have hzi := hst'.size
            by_cases hqx : q < M
            · have hqi : (q : Int) < (M : Int) := by omega
              have HL : Hid ((intCells (o ++ rangeI n q)).length = m') := by show _ = _; rw [intCells_len]; exact HM'.out
              have hmq : m' ≤ 8192 := by
                have h1 := HM'.out
                have h2 := HM.out
                have h3 := HMN.out
                rw [List.length_append, rangeI_len] at h1
                omega
              have HNew := hide (SlAt.one wi 1 [.int .i64 (q : Int)] 3)
              have HOw := hide (HO.out.alloc (.cells #[.int .i64 (q : Int)] 3))
              go_wp2_with (at_builtin; go_loud (refine wpList_append_sl rfl (.tmp 47) (.tmp 49) 68 rfl eiInt (base := w.heap.size) (xs := intCells (o ++ rangeI n q)) rfl HOw.out (int_fit _) (ys := [[.int .i64 (q : Int)]]) rfl (by simp) HNew.out (int_fit [(q : Int)]) (by rw [HL.out]; show (m' + 1) * 8 ≤ _; omega) (fut w (wi.alloc (.cells #[.int .i64 (q : Int)] 3))).size (N := m' + 1) (by rw [HL.out]; rfl) ?_; intro A5 c5 w5 hq5 hq6 hown5 hgr5 hbel5; have H5 := hide hown5; have HB5 := hide hbel5; clear hown5 hgr5 hbel5))
              go_roundw
              case rel =>
                refine ⟨q + 1, m' + 1, A5, c5, by omega, by omega, by go_num, rfl, ?_, ?_, ⟨(fut w (wi.alloc (.cells #[.int .i64 (q : Int)] 3))).trans HB5.out⟩⟩
                · show _ = _
                  rw [rangeI_succ hq1, ← List.append_assoc, List.length_append, HM'.out]; rfl
                · rw [rangeI_succ hq1, ← List.append_assoc]
                  have := H5.out
                  simpa [intCells] using this
              case measure => simp [intOf]; omega
            · obtain rfl : q = M := by omega
              have hqi : ¬ (q : Int) < (q : Int) := by omega
              go_wp2_with fail
              go_ret2
              have HL2 : o.length + (rangeI n q).length = m' := by have := HM'.out; rw [List.length_append] at this; exact this
              exact ⟨A'', c'', by rw [HL2]; rfl, by rw [HL2]; exact HO.out, Step.of⟩
end Go.Proofs.YtnphokhehacfnaaGreatDoor

namespace Go.Proofs.YtnphokhehacfnaaGreatDoor
open Go.RowKit

/-- A row's slice is put anew, its values by then lying otherwise. -/
theorem OwnD.setRow {w w1 : World} {base g : Nat} {n c k : Nat} {rs : List RowA} {r r' : RowA} (h : OwnD w base (some ⟨g, 0, none⟩) n c rs) (hk : rs[k]? = some r)
    (hg : w.grownBy w1 (ob r.A)) (hr' : Own w1 base 36 4 (.slice r'.A r'.vs.length r'.cap) (r'.vs.map Val.cells)) (hob : ob r'.A = ob r.A ∨ ∃ q, ob r'.A = some q ∧ w.heap.size ≤ q) :
    OwnD (w1.setCell ⟨g, k, none⟩ (.slice r'.A r'.vs.length r'.cap)) base (some ⟨g, 0, none⟩) n c (rs.set k r') := by
  have hkl := (List.getElem?_eq_some_iff.1 hk).1
  have hin : ∀ z ∈ rs, Own w base 36 4 (.slice z.A z.vs.length z.cap) (z.vs.map Val.cells) := h.rows.rows
  have hrm := List.mem_of_getElem? hk
  have ho1 : Own w1 base 67 1 (.slice (some ⟨g, 0, none⟩) n c) (rs.map RowA.cells) := h.rows.out.grown_other hg fun q hq hh => own_ne h.rows.out (hin r hrm) (by decide) q hq (by rw [ob_eq]; exact hh)
  obtain ⟨g1, e1, _, _, _, _, p1⟩ := ho1.put (rows_fit rs).len (k := k) (j := 0) (cs := r.cells) (by simp [hk]) (by decide)
  cases e1
  have o1 := p1 (.slice r'.A r'.vs.length r'.cap)
  have o1 : Own (w1.setCell ⟨g, k, none⟩ (.slice r'.A r'.vs.length r'.cap)) base 67 1 (.slice (some ⟨g, 0, none⟩) n c) ((rs.set k r').map RowA.cells) := by
    rw [List.map_set]
    simpa [RowA.cells] using o1
  have hgs := grown_setCell w1 g k (.slice r'.A r'.vs.length r'.cap)
  have hg1 : (Value.slice (some ⟨g, 0, none⟩ : Option Addr) n c).ownBlock = some g := rfl
  have far : ∀ z : RowA, Own w1 base 36 4 (.slice z.A z.vs.length z.cap) (z.vs.map Val.cells) → Own (w1.setCell ⟨g, k, none⟩ (.slice r'.A r'.vs.length r'.cap)) base 36 4 (.slice z.A z.vs.length z.cap) (z.vs.map Val.cells) := fun z hz =>
    hz.grown_other hgs fun q hq hh => own_ne hz ho1 (by decide) q hq (by rw [hg1]; exact hh)
  have oth : ∀ (i : Nat) (z : RowA), i ≠ k → rs[i]? = some z → Own w1 base 36 4 (.slice z.A z.vs.length z.cap) (z.vs.map Val.cells) := fun i z hi hz =>
    (hin z (List.mem_of_getElem? hz)).grown_other hg fun q hq hh => h.diff i k z r hi hz hk q (by rw [← ob_eq z.A z.vs.length z.cap]; exact hq) hh
  refine ⟨⟨o1, fun z hz => ?_⟩, fun i j x y hij hx hy => ?_⟩
  · obtain ⟨i, hi⟩ := List.mem_iff_getElem?.1 hz
    rw [List.getElem?_set] at hi
    split at hi
    · rename_i e
      injection hi with hi
      subst hi
      exact far _ hr'
    · rename_i e
      exact far _ (oth i z (fun e2 => e e2.symm) hi)
  · have ap : ∀ (m : Nat) (z : RowA), m ≠ k → rs[m]? = some z → Apart z.A r'.A := fun m z hm hz q h1 h2 => by
      rcases hob with e | ⟨q2, e, hq2⟩
      · exact h.diff m k z r hm hz hk q h1 (by rw [← e]; exact h2)
      · have := ((hin z (List.mem_of_getElem? hz)).lt q (by rw [ob_eq]; exact h1)).2
        rw [e] at h2
        injection h2 with h2
        omega
    rw [List.getElem?_set] at hx hy
    split at hx
    · rename_i e
      injection hx with hx
      subst hx
      rw [if_neg (by omega)] at hy
      exact (ap j y (by omega) hy).symm
    · rename_i e
      split at hy
      · rename_i e2
        injection hy with hy
        subst hy
        exact ap i x (by omega) hx
      · exact h.diff i j x y hij hx hy
end Go.Proofs.YtnphokhehacfnaaGreatDoor

namespace Go.Proofs.YtnphokhehacfnaaGreatDoor
open Go.RowKit

theorem Doer.dT {w : World} {g D T O : Nat} {t : TbA} {o : OpA} (h : Doer w g D T O t o) : D ≠ T := h.d.ne_ h.tb (by decide)
theorem Doer.oT {w : World} {g D T O : Nat} {t : TbA} {o : OpA} (h : Doer w g D T O t o) : O ≠ T := h.op.ne_ h.tb (by decide)
/-- Another schema is put. -/
theorem Doer.shape {w : World} {g D T O : Nat} {t : TbA} {o : OpA} (h : Doer w g D T O t o) {s : Sch} {A : Option Addr} {c : Nat} (ho : Own w g 90 3 (.slice A s.cols.length c) (s.cols.map Col.cells)) (hc : s.cols.length ≤ c) :
    Doer (set3 w T (.int .i64 s.id) (.slice A s.cols.length c) (.int .i64 s.next)) g D T O ⟨s, A, c, t.sid, t.fs, t.Af, t.cf, t.rs, t.Ar, t.cr⟩ o ∧ Mt g T w (set3 w T (.int .i64 s.id) (.slice A s.cols.length c) (.int .i64 s.next)) := by
  have b1 := h.tb.set_ 0 (.int .i64 s.id)
  have b2 := b1.set_ 1 (.slice A s.cols.length c)
  have b3 := b2.set_ 2 (.int .i64 s.next)
  have q := ((h.own.setT h.tb 0 (.int .i64 s.id)).setT b1 1 (.slice A s.cols.length c)).setT b2 2 (.int .i64 s.next)
  have p := ((ho.set_other h.tb (by decide) 0 (.int .i64 s.id)).set_other b1 (by decide) 1 (.slice A s.cols.length c)).set_other b2 (by decide) 2 (.int .i64 s.next)
  refine ⟨⟨((h.d.far (p := ⟨T, 0, none⟩) h.dT _).far (p := ⟨T, 1, none⟩) h.dT _).far (p := ⟨T, 2, none⟩) h.dT _, b3, ((h.op.far (p := ⟨T, 0, none⟩) h.oT _).far (p := ⟨T, 1, none⟩) h.oT _).far (p := ⟨T, 2, none⟩) h.oT _, ⟨p, hc, q.flds, q.rows⟩, h.gT⟩, ?_⟩
  exact ((Mt.cell w h.gT 0 _).trans (Mt.cell _ h.gT 1 _)).trans (Mt.cell _ h.gT 2 _)

set_option maxRecDepth 100000 in
set_option maxHeartbeats 4000000 in
theorem shape_no (g D T O : Nat) (t : TbA) (o : OpA) (s : Value) (x : Int) (hx : x ≠ 0) (u0 u1 u2 : Value) (hs : s = .agg #[u0, u1, u2]) (w : World) (_h : Doer w g D T O t o) :
    Calls Tryz.prog 90 #[.pointer (some ⟨D, 0, none⟩), s, .int .i64 x] w fun e w' => e = .panicked [{ v := faultM 5, recovered := false }] ∧ Step w w' := by
  subst hs
  have hxb : (x != 0) = true := bne_iff_ne.2 hx
  go_enter Tryz.func90, Tryz.ntmps90
  go_wp2_with (go_at_call 122; (with_reducible refine (throw_yes _ _).mono ?_); rintro e w9 ⟨rfl, h9⟩; obtain rfl := h9.symm)
  exact ⟨rfl, rfl, Step.of⟩
set_option maxRecDepth 100000 in
set_option maxHeartbeats 4000000 in
theorem shape_ok (g D T O : Nat) (t : TbA) (o : OpA) (s : Sch) (A : Option Addr) (c : Nat) (w : World) (h : Doer w g D T O t o) (ho : Own w g 90 3 (.slice A s.cols.length c) (s.cols.map Col.cells)) (hc : s.cols.length ≤ c) (hg : g ≤ w.heap.size) :
    Calls Tryz.prog 90 #[.pointer (some ⟨D, 0, none⟩), .agg #[.int .i64 s.id, .slice A s.cols.length c, .int .i64 s.next], .int .i64 0] w fun e w' => e = .returned (.tuple #[]) ∧ Doer w' g D T O ⟨s, A, c, t.sid, t.fs, t.Af, t.cf, t.rs, t.Ar, t.cr⟩ o ∧ Mt g T w w' := by
  obtain ⟨W1, hW1⟩ : ∃ x : World, x = w.alloc (.cells #[.int .i64 s.id, .slice A s.cols.length c, .int .i64 s.next] 24) := ⟨_, rfl⟩
  have HB : Hid (Blk W1 w.heap.size 24 [.int .i64 s.id, .slice A s.cols.length c, .int .i64 s.next]) := by rw [hW1]; exact Blk.new w _ 24
  have SW1 : Step w W1 := by rw [hW1]; exact Step.of
  have HD : Hid (Doer W1 g D T O t o) := h.fut
  have HSH := hide (fun (w' : World) (hq : Fut W1 w') => (HD.out.fut (w' := w')).shape ((ho.fut (w' := W1)).fut (w' := w')) hc)
  obtain ⟨x0, x1, x2⟩ := At.z3 HB.out.at0
  have lx := HB.out.lt
  obtain ⟨d0, d1⟩ := At.z2 (HD.out.d.fut (w' := W1)).at0
  have ld := (HD.out.d.fut (w' := W1)).lt
  obtain ⟨t0, t1, t2, t3, t4, t5⟩ := At.z6 (HD.out.tb.fut (w' := W1)).at0
  have lt_ := (HD.out.tb.fut (w' := W1)).lt
  have ft_ := (HD.out.tb.fut (w' := W1)).free
  obtain ⟨o0, o1, o2, o3, o4, o5, o6, o7, o8, o9, o10, o11, o12, o13, o14, o15⟩ := At.zOp (HD.out.op.fut (w' := W1)).at0
  have lo := (HD.out.op.fut (w' := W1)).lt
  clear h ho
  unfold TbA.cells at *
  go_enter Tryz.func90, Tryz.ntmps90
  go_upto_region 2 with (go_at_call 122; (with_reducible refine (throw_no _ _).mono ?_); rintro e w9 ⟨rfl, h9⟩; obtain rfl := h9.symm)
  rw [← hW1]
  clear hW1
  refine wp_region_held_drew (S := (fun w' : World => True ∧ True)) (by kernel_rfl) (by (try dsimp only); (exact ⟨trivial, trivial⟩)) (fun hHeld => ?_)
  refine wT 0 9 (by assumption) ?_
  refine wT 1 10 (by assumption) ?_
  refine wT 2 11 (by assumption) ?_
  refine wpAnyH_ready (rs := [3, 4]) (by kernel_rfl) (by simp) ?_
  refine AllReadyH.cons (o := ⟨some 12, _, _, _, _, _⟩) rfl (fun K hK => ?_) (AllReadyH.cons (o := ⟨some 13, _, _, _, _, _⟩) rfl (fun K hK => ?_) AllReadyH.nil)
  · go_simp
    refine hK.out _ _ (by (try dsimp only); (exact ⟨trivial, trivial⟩)) (fun hHeld => ?_)
    clear hK K
    (try simp only [Act.put, List.setIfInBounds_toArray, List.set_cons_zero, List.set_cons_succ])
    refine wpAnyH_ready (rs := [4]) (by kernel_rfl) (by simp) ?_
    refine AllReadyH.cons (o := ⟨some 13, _, _, _, _, _⟩) rfl (fun K hK => ?_) AllReadyH.nil
    go_simp
    refine hK.out _ _ (by (try dsimp only); (exact ⟨trivial, trivial⟩)) (fun hHeld => ?_)
    clear hK K
    (try simp only [Act.put, List.setIfInBounds_toArray, List.set_cons_zero, List.set_cons_succ])
    refine wT 5 14 (by assumption) ?_
    refine wT 6 15 (by assumption) ?_
    refine wpAnyH_ready (rs := [7]) (by kernel_rfl) (by simp) ?_
    refine AllReadyH.cons (o := ⟨none, _, _, _, _, _⟩) rfl (fun K hK => ?_) AllReadyH.nil
    go_simp
    refine hK.out _ _ (by (try dsimp only); (exact ⟨trivial, trivial⟩)) (fun hHeld => ?_)
    clear hK K
    (try simp only [Act.put, List.setIfInBounds_toArray, List.set_cons_zero, List.set_cons_succ])
    refine wpAnyH_done (by kernel_rfl) ?_ _
    clear x0 x1 x2 lx d0 d1 ld t0 t1 t2 t3 t4 t5 lt_ ft_ o0 o1 o2 o3 o4 o5 o6 o7 o8 o9 o10 o11 o12 o13 o14 o15 lo
    go_wp2_with fail
    go_end0
    have hh := HSH.out W1 inferInstance
    have hd := hh.1.fut (w' := (set3 W1 T (.int .i64 s.id) (.slice A s.cols.length c) (.int .i64 s.next)).drew)
    exact ⟨rfl, hd, ((Mt.step hg (fut w W1)).trans hh.2).drew⟩
  · go_simp
    refine hK.out _ _ (by (try dsimp only); (exact ⟨trivial, trivial⟩)) (fun hHeld => ?_)
    clear hK K
    (try simp only [Act.put, List.setIfInBounds_toArray, List.set_cons_zero, List.set_cons_succ])
    refine wpAnyH_ready (rs := [3]) (by kernel_rfl) (by simp) ?_
    refine AllReadyH.cons (o := ⟨some 12, _, _, _, _, _⟩) rfl (fun K hK => ?_) AllReadyH.nil
    go_simp
    refine hK.out _ _ (by (try dsimp only); (exact ⟨trivial, trivial⟩)) (fun hHeld => ?_)
    clear hK K
    (try simp only [Act.put, List.setIfInBounds_toArray, List.set_cons_zero, List.set_cons_succ])
    refine wT 5 14 (by assumption) ?_
    refine wT 6 15 (by assumption) ?_
    refine wpAnyH_ready (rs := [7]) (by kernel_rfl) (by simp) ?_
    refine AllReadyH.cons (o := ⟨none, _, _, _, _, _⟩) rfl (fun K hK => ?_) AllReadyH.nil
    go_simp
    refine hK.out _ _ (by (try dsimp only); (exact ⟨trivial, trivial⟩)) (fun hHeld => ?_)
    clear hK K
    (try simp only [Act.put, List.setIfInBounds_toArray, List.set_cons_zero, List.set_cons_succ])
    refine wpAnyH_done (by kernel_rfl) ?_ _
    clear x0 x1 x2 lx d0 d1 ld t0 t1 t2 t3 t4 t5 lt_ ft_ o0 o1 o2 o3 o4 o5 o6 o7 o8 o9 o10 o11 o12 o13 o14 o15 lo
    go_wp2_with fail
    go_end0
    have hh := HSH.out W1 inferInstance
    have hd := hh.1.fut (w' := (set3 W1 T (.int .i64 s.id) (.slice A s.cols.length c) (.int .i64 s.next)).drew)
    exact ⟨rfl, hd, ((Mt.step hg (fut w W1)).trans hh.2).drew⟩

theorem without_len {many : Int} {at_ : List Int} : (withoutR many at_).1.length ≤ 4096 := by
  unfold withoutR
  split
  · simp
  · rename_i hm
    split
    · rename_i st hst
      have := stW_bd (by omega) at_.length _ hst
      simp only [List.length_append, rangeI_len]
      omega
    · simp
set_option maxRecDepth 100000 in
set_option maxHeartbeats 8000000 in
theorem take_any {w1 : World} (g D T O : Nat) (t : TbA) (o : OpA) (w : World) (h : Doer w g D T O t o) (ho : OpIn w1 o) [f1 : Fut w1 w] (hf : TbFine t) (hg : g ≤ w.heap.size) :
    Calls Tryz.prog 88 #[.pointer (some ⟨D, 0, none⟩)] w fun e w' => RunR g T w (takeP t.tb o.op) e w' := by
  have HD := hide h
  have hlen := hf.rlen
  have PM := hide (fun w' [Fut w1 w'] => ppred_any o.ns o.An o.cn w' ho.prd)
  have YS := fun w' (hs : Fut w w') => yes_any (w1 := w1) g D T O t o w' h.fut ho (f1 := ⟨f1.below.trans (hs.below.mono f1.below.size)⟩) hf
  obtain ⟨R, hR⟩ : ∃ R, takeP t.tb o.op = R := ⟨_, rfl⟩
  have HR := hide hR
  rw [hR]
  clear hR h
  obtain ⟨d0, d1⟩ := At.z2 (HD.out.d.fut (w' := w)).at0
  have ld := (HD.out.d.fut (w' := w)).lt
  obtain ⟨t0, t1, t2, t3, t4, t5⟩ := At.z6 (HD.out.tb.fut (w' := w)).at0
  have lt_ := (HD.out.tb.fut (w' := w)).lt
  have ft_ := (HD.out.tb.fut (w' := w)).free
  obtain ⟨o0, o1, o2, o3, o4, o5, o6, o7, o8, o9, o10, o11, o12, o13, o14, o15⟩ := At.zOp (HD.out.op.fut (w' := w)).at0
  have lo := (HD.out.op.fut (w' := w)).lt
  unfold TbA.cells at *
  cases hp : predB o.ns with
  | false =>
    have HE : Hid (R = .error 9) := by show _ = _; rw [← HR.out, takeP, if_pos (show predB o.op.ns = false from hp)]
    rw [hp] at PM
    clear hp YS
    go_enter Tryz.func88, Tryz.ntmps88
    go_wp2_with (first | (go_at_call 123; (with_reducible refine (PM.out _).mono ?_); rintro e w3 ⟨rfl, hs3⟩) | (go_at_call 122; (with_reducible refine (throw_yes _ _).mono ?_); rintro e w9 ⟨rfl, h9⟩; obtain rfl := h9.symm))
    exact ⟨rfl, by rw [HE.out]; exact ⟨Mt.step hg (fut w w3), rfl⟩⟩
  | true =>
    have HP := hide hp
    rw [hp] at PM
    clear hp
    cases hy : yesP t.tb o.ns with
    | error c =>
      have HE : Hid (R = .error c) := by show _ = _; rw [← HR.out, takeP, if_neg (by rw [show predB o.op.ns = true from HP.out]; simp), show yesP t.tb o.op.ns = .error c from hy]
      rw [hy] at YS
      have YS := hide YS
      clear hy
      go_enter Tryz.func88, Tryz.ntmps88
      go_upto_region 1 with (first | (go_at_call 123; (with_reducible refine (PM.out _).mono ?_); rintro e w3 ⟨rfl, hs3⟩) | (go_at_call 122; (with_reducible refine (throw_no _ _).mono ?_); rintro e w9 ⟨rfl, h9⟩; obtain rfl := h9.symm))
      obtain ⟨wp, hwp⟩ : ∃ x : World, x = w3 := ⟨_, rfl⟩
      rw [← hwp] at hs3 ⊢
      clear hwp d0 d1 ld t0 t1 t2 t3 t4 t5 lt_ ft_ o0 o1 o2 o3 o4 o5 o6 o7 o8 o9 o10 o11 o12 o13 o14 o15 lo
      obtain ⟨d0, d1⟩ := At.z2 (HD.out.d.fut (w' := wp)).at0
      have ld := (HD.out.d.fut (w' := wp)).lt
      obtain ⟨t0, t1, t2, t3, t4, t5⟩ := At.z6 (HD.out.tb.fut (w' := wp)).at0
      have lt_ := (HD.out.tb.fut (w' := wp)).lt
      have ft_ := (HD.out.tb.fut (w' := wp)).free
      obtain ⟨o0, o1, o2, o3, o4, o5, o6, o7, o8, o9, o10, o11, o12, o13, o14, o15⟩ := At.zOp (HD.out.op.fut (w' := wp)).at0
      have lo := (HD.out.op.fut (w' := wp)).lt
      refine wp_region_held_drew (S := (fun w' => Step wp w' ∧ (∀ b o, b < wp.heap.size → w'.cell? ⟨b, o, none⟩ = wp.cell? ⟨b, o, none⟩))) (by kernel_rfl) (by (try dsimp only); (first | exact ⟨hS1, hS2⟩ | exact ⟨Step.of, (bcell (fut _ _)).1⟩)) (fun hHeld => ?_)
      refine wT 0 15 (by assumption) ?_
      refine wT 8 23 (by assumption) ?_
      refine wT 1 16 (by assumption) ?_
      refine wT 2 17 (by assumption) ?_
      refine wT 3 18 (by assumption) ?_
      refine wT 4 19 (by assumption) ?_
      refine wT 5 20 (by assumption) ?_
      refine wT 6 21 (by assumption) ?_
      refine wT 7 22 (by assumption) ?_
      refine wpAnyH_ready (rs := [9]) (by kernel_rfl) (by simp) ?_
      refine AllReadyH.cons (o := ⟨some 24, _, _, _, _, _⟩) rfl (fun K hK => ?_) AllReadyH.nil
      obtain ⟨hS1, hS2⟩ := hHeld
      go_simp
      (go_at_call 124; (with_reducible refine (YS.out _ inferInstance).mono ?_); rintro e w4 ⟨rfl, hs4⟩)
      exact ⟨rfl, by rw [HE.out]; exact ⟨(Mt.step hg (fut w w4)), rfl⟩⟩
    | ok l =>
      have HE : Hid (R = .ok ⟨t.s, t.sid, t.fs, (takeR (t.rs.map RowA.vs) (withoutR t.rs.length l).1).1⟩) := by
        show _ = _
        rw [← HR.out, takeP, if_neg (by rw [show predB o.op.ns = true from HP.out]; simp), show yesP t.tb o.op.ns = .ok l from hy]
        simp [TbA.tb]
      have HLL : Hid (l.length ≤ t.rs.length) := by
        show _ ≤ _
        unfold yesP at hy
        split at hy
        · cases hy
        · injection hy with hy
          rw [← hy]
          have := yesTo_bd o.ns t.s (t.rs.map RowA.vs)
          rw [List.length_map] at this
          exact this
      rw [hy] at YS
      have YS := hide YS
      clear hy
      have WO : Hid (∀ {A : Option Addr} {c B : Nat} (w' : World) (_ : Own w' B 3 1 (.slice A l.length c) (intCells l)), Calls Tryz.prog 140 #[.int .i64 t.rs.length, .slice A l.length c] w' fun e w'' => ∃ (A' : Option Addr) (c' : Nat), e = .returned (.tuple #[.slice A' (withoutR t.rs.length l).1.length c', .int .i64 (withoutR t.rs.length l).2]) ∧ Own w'' w'.heap.size 3 1 (.slice A' (withoutR t.rs.length l).1.length c') (intCells (withoutR t.rs.length l).1) ∧ Step w' w'') := fun {A c B} w' hO => pwithout_any (w0 := w') t.rs.length l A c w' (hO.sl (int_fit _).len) (by have := HLL.out; omega)
      have HWL : Hid ((withoutR t.rs.length l).1.length ≤ 4096) := by show _ ≤ _; have := without_len (many := (t.rs.length : Int)) (at_ := l); omega
      go_enter Tryz.func88, Tryz.ntmps88
      go_upto_region 1 with (first | (go_at_call 123; (with_reducible refine (PM.out _).mono ?_); rintro e w3 ⟨rfl, hs3⟩) | (go_at_call 122; (with_reducible refine (throw_no _ _).mono ?_); rintro e w9 ⟨rfl, h9⟩; obtain rfl := h9.symm))
      obtain ⟨wp, hwp⟩ : ∃ x : World, x = w3 := ⟨_, rfl⟩
      rw [← hwp] at hs3 ⊢
      clear hwp d0 d1 ld t0 t1 t2 t3 t4 t5 lt_ ft_ o0 o1 o2 o3 o4 o5 o6 o7 o8 o9 o10 o11 o12 o13 o14 o15 lo
      obtain ⟨d0, d1⟩ := At.z2 (HD.out.d.fut (w' := wp)).at0
      have ld := (HD.out.d.fut (w' := wp)).lt
      obtain ⟨t0, t1, t2, t3, t4, t5⟩ := At.z6 (HD.out.tb.fut (w' := wp)).at0
      have lt_ := (HD.out.tb.fut (w' := wp)).lt
      have ft_ := (HD.out.tb.fut (w' := wp)).free
      obtain ⟨o0, o1, o2, o3, o4, o5, o6, o7, o8, o9, o10, o11, o12, o13, o14, o15⟩ := At.zOp (HD.out.op.fut (w' := wp)).at0
      have lo := (HD.out.op.fut (w' := wp)).lt
      refine wp_region_held_drew (S := (fun w' => Step wp w' ∧ (∀ b o, b < wp.heap.size → w'.cell? ⟨b, o, none⟩ = wp.cell? ⟨b, o, none⟩))) (by kernel_rfl) (by (try dsimp only); (first | exact ⟨hS1, hS2⟩ | exact ⟨Step.of, (bcell (fut _ _)).1⟩)) (fun hHeld => ?_)
      refine wT 0 15 (by assumption) ?_
      refine wT 8 23 (by assumption) ?_
      refine wT 1 16 (by assumption) ?_
      refine wT 2 17 (by assumption) ?_
      refine wT 3 18 (by assumption) ?_
      refine wT 4 19 (by assumption) ?_
      refine wT 5 20 (by assumption) ?_
      refine wT 6 21 (by assumption) ?_
      refine wT 7 22 (by assumption) ?_
      refine wpAnyH_ready (rs := [9]) (by kernel_rfl) (by simp) ?_
      refine AllReadyH.cons (o := ⟨some 24, _, _, _, _, _⟩) rfl (fun K hK => ?_) AllReadyH.nil
      obtain ⟨hS1, hS2⟩ := hHeld
      go_simp
      (go_at_call 124; (with_reducible refine (YS.out _ inferInstance).mono ?_); rintro e w4 ⟨⟨A4, c4, rfl, ho4⟩, hs4⟩; have HO4 := hide ho4; clear ho4)
      refine hK.out _ _ (by (try dsimp only); (first | exact ⟨hS1, hS2⟩ | exact ⟨Step.of, (bcell (fut _ _)).1⟩)) (fun hHeld => ?_)
      clear hK K
      (try simp only [Act.put, List.setIfInBounds_toArray, List.set_cons_zero, List.set_cons_succ])
      refine wpAnyH_ready (rs := [10]) (by kernel_rfl) (by simp) ?_
      refine AllReadyH.cons (o := ⟨some 25, _, _, _, _, _⟩) rfl (fun K hK => ?_) AllReadyH.nil
      obtain ⟨hS1, hS2⟩ := hHeld
      go_simp
      (go_at_call 140; (with_reducible refine (WO.out _ HO4.out).mono ?_); rintro e w5 ⟨A5, c5, rfl, ho5, hs5⟩; have HO5 := hide ho5; clear ho5)
      refine hK.out _ _ (by (try dsimp only); (first | exact ⟨hS1, hS2⟩ | exact ⟨Step.of, (bcell (fut _ _)).1⟩)) (fun hHeld => ?_)
      clear hK K
      (try simp only [Act.put, List.setIfInBounds_toArray, List.set_cons_zero, List.set_cons_succ])
      refine wT 11 14 (by assumption) ?_
      refine wT 12 26 (by assumption) ?_
      refine wT 13 27 (by assumption) ?_
      refine wT 14 2 (by assumption) ?_
      refine wT 15 3 (by assumption) ?_
      refine wpAnyH_done (by kernel_rfl) ?_ _
      clear d0 d1 ld t0 t1 t2 t3 t4 t5 lt_ ft_ o0 o1 o2 o3 o4 o5 o6 o7 o8 o9 o10 o11 o12 o13 o14 o15 lo; 
      obtain ⟨wq, hwq⟩ : ∃ x : World, x = w5 := ⟨_, rfl⟩
      rw [← hwq] at hs5 HO5 ⊢
      clear hwq
      go_upto_region 2 with fail
      have hqs := (fut w wq).size
      have TK := hide (fun (w' : World) [Fut wq w'] => ptake_any (w0 := wq) (w1 := wq) t.rs t.Ar t.cr (withoutR t.rs.length l).1 A5 c5 w' ((HD.out.own.fut (w' := wq)).r.tin hf).rows (HO5.out.sl (int_fit _).len) (by have := HWL.out; omega))
      obtain ⟨d0, d1⟩ := At.z2 (HD.out.d.fut (w' := wq)).at0
      have ld := (HD.out.d.fut (w' := wq)).lt
      obtain ⟨t0, t1, t2, t3, t4, t5⟩ := At.z6 (HD.out.tb.fut (w' := wq)).at0
      have lt_ := (HD.out.tb.fut (w' := wq)).lt
      have ft_ := (HD.out.tb.fut (w' := wq)).free
      obtain ⟨o0, o1, o2, o3, o4, o5, o6, o7, o8, o9, o10, o11, o12, o13, o14, o15⟩ := At.zOp (HD.out.op.fut (w' := wq)).at0
      have lo := (HD.out.op.fut (w' := wq)).lt
      refine wp_region_held_drew (S := (fun w' : World => True ∧ True)) (by kernel_rfl) (by (try dsimp only); (exact ⟨trivial, trivial⟩)) (fun hHeld => ?_)
      refine wT 0 29 (by assumption) ?_
      refine wT 4 33 (by assumption) ?_
      refine wT 11 40 (by assumption) ?_
      refine wT 1 30 (by assumption) ?_
      refine wT 5 34 (by assumption) ?_
      refine wT 2 31 (by assumption) ?_
      refine wT 6 35 (by assumption) ?_
      refine wpAnyH_ready (rs := [3, 7]) (by kernel_rfl) (by simp) ?_
      refine AllReadyH.cons (o := ⟨some 32, _, _, _, _, _⟩) rfl (fun K hK => ?_) (AllReadyH.cons (o := ⟨some 36, _, _, _, _, _⟩) rfl (fun K hK => ?_) AllReadyH.nil)
      · go_simp
        refine hK.out _ _ (by (try dsimp only); (exact ⟨trivial, trivial⟩)) (fun hHeld => ?_)
        clear hK K
        (try simp only [Act.put, List.setIfInBounds_toArray, List.set_cons_zero, List.set_cons_succ])
        refine wpAnyH_ready (rs := [7]) (by kernel_rfl) (by simp) ?_
        refine AllReadyH.cons (o := ⟨some 36, _, _, _, _, _⟩) rfl (fun K hK => ?_) AllReadyH.nil
        go_simp
        refine hK.out _ _ (by (try dsimp only); (exact ⟨trivial, trivial⟩)) (fun hHeld => ?_)
        clear hK K
        (try simp only [Act.put, List.setIfInBounds_toArray, List.set_cons_zero, List.set_cons_succ])
        refine wT 8 37 (by assumption) ?_
        refine wT 9 38 (by assumption) ?_
        refine wpAnyH_ready (rs := [10]) (by kernel_rfl) (by simp) ?_
        refine AllReadyH.cons (o := ⟨some 39, _, _, _, _, _⟩) rfl (fun K hK => ?_) AllReadyH.nil
        go_simp
        refine hK.out _ _ (by (try dsimp only); (exact ⟨trivial, trivial⟩)) (fun hHeld => ?_)
        clear hK K
        (try simp only [Act.put, List.setIfInBounds_toArray, List.set_cons_zero, List.set_cons_succ])
        refine wpAnyH_ready (rs := [12]) (by kernel_rfl) (by simp) ?_
        refine AllReadyH.cons (o := ⟨some 41, _, _, _, _, _⟩) rfl (fun K hK => ?_) AllReadyH.nil
        obtain ⟨hS1, hS2⟩ := hHeld
        go_simp
        (go_at_call 126; (with_reducible refine (TK.out _).mono ?_); rintro e w6 ⟨A6, c6, os, hos, rfl, ho6, hs6⟩; have HO6 := hide ho6; have HOS := hide hos; clear ho6 hos; clear d0 d1 ld t0 t1 t2 t3 t4 t5 lt_ ft_ o0 o1 o2 o3 o4 o5 o6 o7 o8 o9 o10 o11 o12 o13 o14 o15 lo; obtain ⟨d0, d1⟩ := At.z2 (HD.out.d.fut (w' := w6)).at0; have ld := (HD.out.d.fut (w' := w6)).lt; obtain ⟨t0, t1, t2, t3, t4, t5⟩ := At.z6 (HD.out.tb.fut (w' := w6)).at0; have lt_ := (HD.out.tb.fut (w' := w6)).lt; have ft_ := (HD.out.tb.fut (w' := w6)).free; obtain ⟨o0, o1, o2, o3, o4, o5, o6, o7, o8, o9, o10, o11, o12, o13, o14, o15⟩ := At.zOp (HD.out.op.fut (w' := w6)).at0; have lo := (HD.out.op.fut (w' := w6)).lt)
        refine hK.out _ _ (by (try dsimp only); (exact ⟨trivial, trivial⟩)) (fun hHeld => ?_)
        clear hK K
        (try simp only [Act.put, List.setIfInBounds_toArray, List.set_cons_zero, List.set_cons_succ])
        refine wT 13 28 (by assumption) ?_
        refine wT 14 42 (by assumption) ?_
        refine wT 15 43 (by assumption) ?_
        refine wT 16 44 (by assumption) ?_
        refine wT 17 45 (by assumption) ?_
        refine wpAnyH_ready (rs := [18]) (by kernel_rfl) (by simp) ?_
        refine AllReadyH.cons (o := ⟨none, _, _, _, _, _⟩) rfl (fun K hK => ?_) AllReadyH.nil
        go_simp
        refine hK.out _ _ (by (try dsimp only); (exact ⟨trivial, trivial⟩)) (fun hHeld => ?_)
        clear hK K
        (try simp only [Act.put, List.setIfInBounds_toArray, List.set_cons_zero, List.set_cons_succ])
        refine wpAnyH_done (by kernel_rfl) ?_ _
        clear d0 d1 ld t0 t1 t2 t3 t4 t5 lt_ ft_ o0 o1 o2 o3 o4 o5 o6 o7 o8 o9 o10 o11 o12 o13 o14 o15 lo
        go_wp2_with fail
        go_end0
        have hq6 : g ≤ w6.heap.size := by have := (fut w w6).size; omega
        have ho := (TbOwnR.mk (HD.out.own.cols.fut (w' := w6)) (HD.out.own.flds.fut (w' := w6)) ⟨HO6.out.out.more (by show g ≤ wq.heap.size; omega), fun r hr => (HO6.out.rows r hr).more (by show g ≤ wq.heap.size; omega)⟩ : TbOwnR w6 g ⟨t.s, t.As, t.cs, t.sid, t.fs, t.Af, t.cf, os, A6, c6⟩)
        rw [HE.out]
        exact ⟨(Mt.step hg (fut w w6)).trans (Mt.cell w6 HD.out.gT 5 _), rfl, ⟨t.s, t.As, t.cs, t.sid, t.fs, t.Af, t.cf, os, A6, c6⟩, by simp only [TbA.tb]; rw [HOS.out], (HD.out.tb.fut (w' := w6)).set_ 5 (.slice A6 os.length c6), ho.setT (HD.out.tb.fut (w' := w6)) 5 _⟩
      · go_simp
        refine hK.out _ _ (by (try dsimp only); (exact ⟨trivial, trivial⟩)) (fun hHeld => ?_)
        clear hK K
        (try simp only [Act.put, List.setIfInBounds_toArray, List.set_cons_zero, List.set_cons_succ])
        refine wT 8 37 (by assumption) ?_
        refine wT 9 38 (by assumption) ?_
        refine wpAnyH_ready (rs := [3, 10]) (by kernel_rfl) (by simp) ?_
        refine AllReadyH.cons (o := ⟨some 32, _, _, _, _, _⟩) rfl (fun K hK => ?_) (AllReadyH.cons (o := ⟨some 39, _, _, _, _, _⟩) rfl (fun K hK => ?_) AllReadyH.nil)
        · go_simp
          refine hK.out _ _ (by (try dsimp only); (exact ⟨trivial, trivial⟩)) (fun hHeld => ?_)
          clear hK K
          (try simp only [Act.put, List.setIfInBounds_toArray, List.set_cons_zero, List.set_cons_succ])
          refine wpAnyH_ready (rs := [10]) (by kernel_rfl) (by simp) ?_
          refine AllReadyH.cons (o := ⟨some 39, _, _, _, _, _⟩) rfl (fun K hK => ?_) AllReadyH.nil
          go_simp
          refine hK.out _ _ (by (try dsimp only); (exact ⟨trivial, trivial⟩)) (fun hHeld => ?_)
          clear hK K
          (try simp only [Act.put, List.setIfInBounds_toArray, List.set_cons_zero, List.set_cons_succ])
          refine wpAnyH_ready (rs := [12]) (by kernel_rfl) (by simp) ?_
          refine AllReadyH.cons (o := ⟨some 41, _, _, _, _, _⟩) rfl (fun K hK => ?_) AllReadyH.nil
          obtain ⟨hS1, hS2⟩ := hHeld
          go_simp
          (go_at_call 126; (with_reducible refine (TK.out _).mono ?_); rintro e w6 ⟨A6, c6, os, hos, rfl, ho6, hs6⟩; have HO6 := hide ho6; have HOS := hide hos; clear ho6 hos; clear d0 d1 ld t0 t1 t2 t3 t4 t5 lt_ ft_ o0 o1 o2 o3 o4 o5 o6 o7 o8 o9 o10 o11 o12 o13 o14 o15 lo; obtain ⟨d0, d1⟩ := At.z2 (HD.out.d.fut (w' := w6)).at0; have ld := (HD.out.d.fut (w' := w6)).lt; obtain ⟨t0, t1, t2, t3, t4, t5⟩ := At.z6 (HD.out.tb.fut (w' := w6)).at0; have lt_ := (HD.out.tb.fut (w' := w6)).lt; have ft_ := (HD.out.tb.fut (w' := w6)).free; obtain ⟨o0, o1, o2, o3, o4, o5, o6, o7, o8, o9, o10, o11, o12, o13, o14, o15⟩ := At.zOp (HD.out.op.fut (w' := w6)).at0; have lo := (HD.out.op.fut (w' := w6)).lt)
          refine hK.out _ _ (by (try dsimp only); (exact ⟨trivial, trivial⟩)) (fun hHeld => ?_)
          clear hK K
          (try simp only [Act.put, List.setIfInBounds_toArray, List.set_cons_zero, List.set_cons_succ])
          refine wT 13 28 (by assumption) ?_
          refine wT 14 42 (by assumption) ?_
          refine wT 15 43 (by assumption) ?_
          refine wT 16 44 (by assumption) ?_
          refine wT 17 45 (by assumption) ?_
          refine wpAnyH_ready (rs := [18]) (by kernel_rfl) (by simp) ?_
          refine AllReadyH.cons (o := ⟨none, _, _, _, _, _⟩) rfl (fun K hK => ?_) AllReadyH.nil
          go_simp
          refine hK.out _ _ (by (try dsimp only); (exact ⟨trivial, trivial⟩)) (fun hHeld => ?_)
          clear hK K
          (try simp only [Act.put, List.setIfInBounds_toArray, List.set_cons_zero, List.set_cons_succ])
          refine wpAnyH_done (by kernel_rfl) ?_ _
          clear d0 d1 ld t0 t1 t2 t3 t4 t5 lt_ ft_ o0 o1 o2 o3 o4 o5 o6 o7 o8 o9 o10 o11 o12 o13 o14 o15 lo
          go_wp2_with fail
          go_end0
          have hq6 : g ≤ w6.heap.size := by have := (fut w w6).size; omega
          have ho := (TbOwnR.mk (HD.out.own.cols.fut (w' := w6)) (HD.out.own.flds.fut (w' := w6)) ⟨HO6.out.out.more (by show g ≤ wq.heap.size; omega), fun r hr => (HO6.out.rows r hr).more (by show g ≤ wq.heap.size; omega)⟩ : TbOwnR w6 g ⟨t.s, t.As, t.cs, t.sid, t.fs, t.Af, t.cf, os, A6, c6⟩)
          rw [HE.out]
          exact ⟨(Mt.step hg (fut w w6)).trans (Mt.cell w6 HD.out.gT 5 _), rfl, ⟨t.s, t.As, t.cs, t.sid, t.fs, t.Af, t.cf, os, A6, c6⟩, by simp only [TbA.tb]; rw [HOS.out], (HD.out.tb.fut (w' := w6)).set_ 5 (.slice A6 os.length c6), ho.setT (HD.out.tb.fut (w' := w6)) 5 _⟩
        · go_simp
          refine hK.out _ _ (by (try dsimp only); (exact ⟨trivial, trivial⟩)) (fun hHeld => ?_)
          clear hK K
          (try simp only [Act.put, List.setIfInBounds_toArray, List.set_cons_zero, List.set_cons_succ])
          refine wpAnyH_ready (rs := [3, 12]) (by kernel_rfl) (by simp) ?_
          refine AllReadyH.cons (o := ⟨some 32, _, _, _, _, _⟩) rfl (fun K hK => ?_) (AllReadyH.cons (o := ⟨some 41, _, _, _, _, _⟩) rfl (fun K hK => ?_) AllReadyH.nil)
          · go_simp
            refine hK.out _ _ (by (try dsimp only); (exact ⟨trivial, trivial⟩)) (fun hHeld => ?_)
            clear hK K
            (try simp only [Act.put, List.setIfInBounds_toArray, List.set_cons_zero, List.set_cons_succ])
            refine wpAnyH_ready (rs := [12]) (by kernel_rfl) (by simp) ?_
            refine AllReadyH.cons (o := ⟨some 41, _, _, _, _, _⟩) rfl (fun K hK => ?_) AllReadyH.nil
            obtain ⟨hS1, hS2⟩ := hHeld
            go_simp
            (go_at_call 126; (with_reducible refine (TK.out _).mono ?_); rintro e w6 ⟨A6, c6, os, hos, rfl, ho6, hs6⟩; have HO6 := hide ho6; have HOS := hide hos; clear ho6 hos; clear d0 d1 ld t0 t1 t2 t3 t4 t5 lt_ ft_ o0 o1 o2 o3 o4 o5 o6 o7 o8 o9 o10 o11 o12 o13 o14 o15 lo; obtain ⟨d0, d1⟩ := At.z2 (HD.out.d.fut (w' := w6)).at0; have ld := (HD.out.d.fut (w' := w6)).lt; obtain ⟨t0, t1, t2, t3, t4, t5⟩ := At.z6 (HD.out.tb.fut (w' := w6)).at0; have lt_ := (HD.out.tb.fut (w' := w6)).lt; have ft_ := (HD.out.tb.fut (w' := w6)).free; obtain ⟨o0, o1, o2, o3, o4, o5, o6, o7, o8, o9, o10, o11, o12, o13, o14, o15⟩ := At.zOp (HD.out.op.fut (w' := w6)).at0; have lo := (HD.out.op.fut (w' := w6)).lt)
            refine hK.out _ _ (by (try dsimp only); (exact ⟨trivial, trivial⟩)) (fun hHeld => ?_)
            clear hK K
            (try simp only [Act.put, List.setIfInBounds_toArray, List.set_cons_zero, List.set_cons_succ])
            refine wT 13 28 (by assumption) ?_
            refine wT 14 42 (by assumption) ?_
            refine wT 15 43 (by assumption) ?_
            refine wT 16 44 (by assumption) ?_
            refine wT 17 45 (by assumption) ?_
            refine wpAnyH_ready (rs := [18]) (by kernel_rfl) (by simp) ?_
            refine AllReadyH.cons (o := ⟨none, _, _, _, _, _⟩) rfl (fun K hK => ?_) AllReadyH.nil
            go_simp
            refine hK.out _ _ (by (try dsimp only); (exact ⟨trivial, trivial⟩)) (fun hHeld => ?_)
            clear hK K
            (try simp only [Act.put, List.setIfInBounds_toArray, List.set_cons_zero, List.set_cons_succ])
            refine wpAnyH_done (by kernel_rfl) ?_ _
            clear d0 d1 ld t0 t1 t2 t3 t4 t5 lt_ ft_ o0 o1 o2 o3 o4 o5 o6 o7 o8 o9 o10 o11 o12 o13 o14 o15 lo
            go_wp2_with fail
            go_end0
            have hq6 : g ≤ w6.heap.size := by have := (fut w w6).size; omega
            have ho := (TbOwnR.mk (HD.out.own.cols.fut (w' := w6)) (HD.out.own.flds.fut (w' := w6)) ⟨HO6.out.out.more (by show g ≤ wq.heap.size; omega), fun r hr => (HO6.out.rows r hr).more (by show g ≤ wq.heap.size; omega)⟩ : TbOwnR w6 g ⟨t.s, t.As, t.cs, t.sid, t.fs, t.Af, t.cf, os, A6, c6⟩)
            rw [HE.out]
            exact ⟨(Mt.step hg (fut w w6)).trans (Mt.cell w6 HD.out.gT 5 _), rfl, ⟨t.s, t.As, t.cs, t.sid, t.fs, t.Af, t.cf, os, A6, c6⟩, by simp only [TbA.tb]; rw [HOS.out], (HD.out.tb.fut (w' := w6)).set_ 5 (.slice A6 os.length c6), ho.setT (HD.out.tb.fut (w' := w6)) 5 _⟩
          · obtain ⟨hS1, hS2⟩ := hHeld
            go_simp
            (go_at_call 126; (with_reducible refine (TK.out _).mono ?_); rintro e w6 ⟨A6, c6, os, hos, rfl, ho6, hs6⟩; have HO6 := hide ho6; have HOS := hide hos; clear ho6 hos; clear d0 d1 ld t0 t1 t2 t3 t4 t5 lt_ ft_ o0 o1 o2 o3 o4 o5 o6 o7 o8 o9 o10 o11 o12 o13 o14 o15 lo; obtain ⟨d0, d1⟩ := At.z2 (HD.out.d.fut (w' := w6)).at0; have ld := (HD.out.d.fut (w' := w6)).lt; obtain ⟨t0, t1, t2, t3, t4, t5⟩ := At.z6 (HD.out.tb.fut (w' := w6)).at0; have lt_ := (HD.out.tb.fut (w' := w6)).lt; have ft_ := (HD.out.tb.fut (w' := w6)).free; obtain ⟨o0, o1, o2, o3, o4, o5, o6, o7, o8, o9, o10, o11, o12, o13, o14, o15⟩ := At.zOp (HD.out.op.fut (w' := w6)).at0; have lo := (HD.out.op.fut (w' := w6)).lt)
            refine hK.out _ _ (by (try dsimp only); (exact ⟨trivial, trivial⟩)) (fun hHeld => ?_)
            clear hK K
            (try simp only [Act.put, List.setIfInBounds_toArray, List.set_cons_zero, List.set_cons_succ])
            refine wT 13 28 (by assumption) ?_
            refine wT 14 42 (by assumption) ?_
            refine wT 15 43 (by assumption) ?_
            refine wpAnyH_ready (rs := [3]) (by kernel_rfl) (by simp) ?_
            refine AllReadyH.cons (o := ⟨some 32, _, _, _, _, _⟩) rfl (fun K hK => ?_) AllReadyH.nil
            go_simp
            refine hK.out _ _ (by (try dsimp only); (exact ⟨trivial, trivial⟩)) (fun hHeld => ?_)
            clear hK K
            (try simp only [Act.put, List.setIfInBounds_toArray, List.set_cons_zero, List.set_cons_succ])
            refine wT 16 44 (by assumption) ?_
            refine wT 17 45 (by assumption) ?_
            refine wpAnyH_ready (rs := [18]) (by kernel_rfl) (by simp) ?_
            refine AllReadyH.cons (o := ⟨none, _, _, _, _, _⟩) rfl (fun K hK => ?_) AllReadyH.nil
            go_simp
            refine hK.out _ _ (by (try dsimp only); (exact ⟨trivial, trivial⟩)) (fun hHeld => ?_)
            clear hK K
            (try simp only [Act.put, List.setIfInBounds_toArray, List.set_cons_zero, List.set_cons_succ])
            refine wpAnyH_done (by kernel_rfl) ?_ _
            clear d0 d1 ld t0 t1 t2 t3 t4 t5 lt_ ft_ o0 o1 o2 o3 o4 o5 o6 o7 o8 o9 o10 o11 o12 o13 o14 o15 lo
            go_wp2_with fail
            go_end0
            have hq6 : g ≤ w6.heap.size := by have := (fut w w6).size; omega
            have ho := (TbOwnR.mk (HD.out.own.cols.fut (w' := w6)) (HD.out.own.flds.fut (w' := w6)) ⟨HO6.out.out.more (by show g ≤ wq.heap.size; omega), fun r hr => (HO6.out.rows r hr).more (by show g ≤ wq.heap.size; omega)⟩ : TbOwnR w6 g ⟨t.s, t.As, t.cs, t.sid, t.fs, t.Af, t.cf, os, A6, c6⟩)
            rw [HE.out]
            exact ⟨(Mt.step hg (fut w w6)).trans (Mt.cell w6 HD.out.gT 5 _), rfl, ⟨t.s, t.As, t.cs, t.sid, t.fs, t.Af, t.cf, os, A6, c6⟩, by simp only [TbA.tb]; rw [HOS.out], (HD.out.tb.fut (w' := w6)).set_ 5 (.slice A6 os.length c6), ho.setT (HD.out.tb.fut (w' := w6)) 5 _⟩
end Go.Proofs.YtnphokhehacfnaaGreatDoor

namespace Go.Proofs.YtnphokhehacfnaaGreatDoor
open Go.RowKit

set_option maxRecDepth 100000 in
set_option maxHeartbeats 4000000 in
theorem run_del {w1 : World} (g D T O : Nat) (t : TbA) (o : OpA) (w : World) (h : Doer w g D T O t o) (ho : OpIn w1 o) [f1 : Fut w1 w] (hf : TbFine t) (hg : g ≤ w.heap.size) (hk : o.kind = 1) :
    Calls Tryz.prog 44 #[.pointer (some ⟨D, 0, none⟩)] w fun e w' => RunR g T w (takeP t.tb o.op) e w' := by
  have CC := take_any g D T O t o w h ho hf hg
  have HD := hide h
  obtain ⟨d0, d1⟩ := At.z2 (HD.out.d.fut (w' := w)).at0
  have ld := (HD.out.d.fut (w' := w)).lt
  obtain ⟨t0, t1, t2, t3, t4, t5⟩ := At.z6 (HD.out.tb.fut (w' := w)).at0
  have lt_ := (HD.out.tb.fut (w' := w)).lt
  have ft_ := (HD.out.tb.fut (w' := w)).free
  obtain ⟨o0, o1, o2, o3, o4, o5, o6, o7, o8, o9, o10, o11, o12, o13, o14, o15⟩ := At.zOp (HD.out.op.fut (w' := w)).at0
  have lo := (HD.out.op.fut (w' := w)).lt
  unfold TbA.cells at *
  rw [hk] at o0
  clear hk
  cases hR : takeP t.tb o.op with
  | error c =>
    rw [hR] at CC
    have CC := hide CC
    clear hR
    go_enter Tryz.func44, Tryz.ntmps44
    go_wp2_with (go_at_call 88; (with_reducible refine CC.out.mono ?_); rintro e w3 ⟨hmt, rfl⟩; have HMT := hide hmt; clear hmt)
    exact ⟨rfl, HMT.out, rfl⟩
  | ok u =>
    rw [hR] at CC
    have CC := hide CC
    clear hR
    go_enter Tryz.func44, Tryz.ntmps44
    go_wp2_with (go_at_call 88; (with_reducible refine CC.out.mono ?_); rintro e w3 ⟨hmt, rfl, t2, ht2, hb2, ho2⟩; have HMT := hide hmt; have HT2 := hide ht2; have HB2 := hide hb2; have HO2 := hide ho2; clear hmt ht2 hb2 ho2)
    go_end0
    exact ⟨HMT.out, rfl, t2, HT2.out, HB2.out, HO2.out⟩
set_option maxRecDepth 100000 in
set_option maxHeartbeats 4000000 in
theorem run_mark {w1 : World} (g D T O : Nat) (t : TbA) (o : OpA) (w : World) (h : Doer w g D T O t o) (ho : OpIn w1 o) [f1 : Fut w1 w] (hf : TbFine t) (hg : g ≤ w.heap.size) (hk : o.kind = 2) :
    Calls Tryz.prog 44 #[.pointer (some ⟨D, 0, none⟩)] w fun e w' => RunR g T w (takeP t.tb o.op) e w' := by
  have CC := take_any g D T O t o w h ho hf hg
  have HD := hide h
  obtain ⟨d0, d1⟩ := At.z2 (HD.out.d.fut (w' := w)).at0
  have ld := (HD.out.d.fut (w' := w)).lt
  obtain ⟨t0, t1, t2, t3, t4, t5⟩ := At.z6 (HD.out.tb.fut (w' := w)).at0
  have lt_ := (HD.out.tb.fut (w' := w)).lt
  have ft_ := (HD.out.tb.fut (w' := w)).free
  obtain ⟨o0, o1, o2, o3, o4, o5, o6, o7, o8, o9, o10, o11, o12, o13, o14, o15⟩ := At.zOp (HD.out.op.fut (w' := w)).at0
  have lo := (HD.out.op.fut (w' := w)).lt
  unfold TbA.cells at *
  rw [hk] at o0
  clear hk
  cases hR : takeP t.tb o.op with
  | error c =>
    rw [hR] at CC
    have CC := hide CC
    clear hR
    go_enter Tryz.func44, Tryz.ntmps44
    go_wp2_with (go_at_call 88; (with_reducible refine CC.out.mono ?_); rintro e w3 ⟨hmt, rfl⟩; have HMT := hide hmt; clear hmt)
    exact ⟨rfl, HMT.out, rfl⟩
  | ok u =>
    rw [hR] at CC
    have CC := hide CC
    clear hR
    go_enter Tryz.func44, Tryz.ntmps44
    go_wp2_with (go_at_call 88; (with_reducible refine CC.out.mono ?_); rintro e w3 ⟨hmt, rfl, t2, ht2, hb2, ho2⟩; have HMT := hide hmt; have HT2 := hide ht2; have HB2 := hide hb2; have HO2 := hide ho2; clear hmt ht2 hb2 ho2)
    go_end0
    exact ⟨HMT.out, rfl, t2, HT2.out, HB2.out, HO2.out⟩
theorem take_err {t : Tb} {o : Opp} {c : Int} (h : takeP t o = .error c) : c ≠ 0 := by
  unfold takeP at h
  split at h
  · injection h with h; omega
  · unfold yesP at h
    split at h
    · rename_i hq
      split at hq
      · injection hq with hq; injection h with h; omega
      · cases hq
    · cases h
end Go.Proofs.YtnphokhehacfnaaGreatDoor

namespace Go.Proofs.YtnphokhehacfnaaGreatDoor
open Go.RowKit

end Go.Proofs.YtnphokhehacfnaaGreatDoor
namespace Go.Proofs.YtnphokhehacfnaaGreatDoor
open Go.RowKit

theorem stO_hit {at_ : List Int} {i k : Nat} {o : List Int} (h : stO at_ i = (k, o)) (hx : at_[k]? = some (i : Int)) : stO at_ (i + 1) = (k + 1, o) := by
  rw [stO, h]; simp only []; rw [if_pos hx]
theorem stO_miss {at_ : List Int} {i k : Nat} {o : List Int} (h : stO at_ i = (k, o)) (hx : at_[k]? ≠ some (i : Int)) : stO at_ (i + 1) = (k, o ++ [(i : Int)]) := by
  rw [stO, h]; simp only []; rw [if_neg hx]

end Go.Proofs.YtnphokhehacfnaaGreatDoor
namespace Go.Proofs.YtnphokhehacfnaaGreatDoor
open Go.RowKit

theorem stO_run {at_ : List Int} {n j : Nat} {o : List Int} (h : stO at_ n = (j, o)) : ∀ m, n ≤ m → (∀ i : Nat, n ≤ i → i < m → at_[j]? ≠ some (i : Int)) → stO at_ m = (j, o ++ rangeI n m)
  | 0, hm, _ => by
    obtain rfl : n = 0 := by omega
    rw [h, rangeI_self, List.append_nil]
  | m + 1, hm, hne => by
    by_cases e : n = m + 1
    · subst e; rw [h, rangeI_self, List.append_nil]
    · have ih := stO_run h m (by omega) fun i h1 h2 => hne i h1 (by omega)
      rw [stO_miss ih (hne m (by omega) (by omega)), rangeI_succ (by omega), List.append_assoc]
theorem stO_stW {M : Nat} {at_ : List Int} : ∀ j n o, j ≤ at_.length → stW (M : Int) at_ j = some (n, o) → stO at_ n = (j, o)
  | 0, n, o, _, h => by
    simp [stW] at h
    obtain ⟨rfl, rfl⟩ := h
    rfl
  | j + 1, n, o, hj, h => by
    rw [stW] at h
    cases hs : stW (M : Int) at_ j with
    | none => rw [hs] at h; simp at h
    | some s0 =>
      obtain ⟨n0, o0⟩ := s0
      rw [hs] at h
      simp only at h
      split at h
      · simp at h
      · rename_i hc
        have hx : at_[j]? = some at_[j] := List.getElem?_eq_getElem (by omega)
        have hg : at_.getD j 0 = at_[j] := by rw [List.getD_eq_getElem?_getD, hx]; rfl
        rw [hg] at h hc
        obtain ⟨xn, hxn⟩ : ∃ xn : Nat, at_[j] = (xn : Int) := ⟨at_[j].toNat, by omega⟩
        rw [hxn] at h hc hx
        simp at h
        obtain ⟨rfl, rfl⟩ := h
        have ih := stO_stW j n0 o0 (by omega) hs
        have hr := stO_run ih xn (by omega) fun i h1 h2 => by rw [hx]; simp; omega
        exact stO_hit hr hx
theorem out_without (many : Int) (at_ : List Int) : outO many at_ = ((withoutR many at_).1, (withoutR many at_).2 == 0) := by
  unfold outO withoutR
  by_cases hb : many < 0 ∨ 4096 < many
  · rw [if_pos hb, if_pos hb]; rfl
  · rw [if_neg hb, if_neg hb]
    obtain ⟨M, rfl⟩ : ∃ M : Nat, many = (M : Int) := ⟨many.toNat, by omega⟩
    have hbd := stW_bd (many := (M : Int)) (at_ := at_) ⟨by omega, by omega⟩
    rw [Int.toNat_natCast]
    cases hs : stW (M : Int) at_ at_.length with
    | some st =>
      obtain ⟨n, o⟩ := st
      have hn := (hbd _ _ hs).1
      have h1 := stO_stW _ n o (Nat.le_refl _) hs
      have h2 := stO_run h1 M (by simpa using hn) fun i _ _ => by rw [List.getElem?_eq_none (Nat.le_refl _)]; simp
      rw [h2, if_pos rfl]
      rfl
    | none =>
      -- the first place that falls
      have key : ∃ j n o x, j < at_.length ∧ stW (M : Int) at_ j = some (n, o) ∧ at_[j]? = some x ∧ (x < (n : Int) ∨ (M : Int) ≤ x) := by
        have : ∀ k, k ≤ at_.length → stW (M : Int) at_ k = none → ∃ j n o x, j < at_.length ∧ stW (M : Int) at_ j = some (n, o) ∧ at_[j]? = some x ∧ (x < (n : Int) ∨ (M : Int) ≤ x) := by
          intro k
          induction k with
          | zero => intro _ h; simp [stW] at h
          | succ k ih =>
            intro hk h
            cases hk2 : stW (M : Int) at_ k with
            | none => exact ih (by omega) hk2
            | some s0 =>
              obtain ⟨n0, o0⟩ := s0
              have hx : at_[k]? = some at_[k] := List.getElem?_eq_getElem (by omega)
              have hg : at_.getD k 0 = at_[k] := by rw [List.getD_eq_getElem?_getD, hx]; rfl
              rw [stW, hk2] at h
              simp only [hg] at h
              split at h
              · rename_i hc; exact ⟨k, n0, o0, at_[k], by omega, hk2, hx, hc⟩
              · simp at h
        exact this _ (Nat.le_refl _) hs
      obtain ⟨j, n, o, x, hj, hst, hx, hbad⟩ := key
      have hn := (hbd _ _ hst).1
      have h1 := stO_stW j n o (by omega) hst
      have h2 := stO_run h1 M (by simpa using hn) fun i h1 h2 => by rw [hx]; simp; omega
      rw [h2, if_neg (by simp only []; omega)]
      rfl
end Go.Proofs.YtnphokhehacfnaaGreatDoor
namespace Go.Proofs.YtnphokhehacfnaaGreatDoor
open Go.RowKit

theorem yes_no_perm (ns : List Nod) (s : Sch) (vss : List (List Val)) : ∀ k, (yesTo ns s vss k ++ noTo ns s vss k).Perm (rangeI 0 k)
  | 0 => List.Perm.refl _
  | k + 1 => by
    have ih := yes_no_perm ns s vss k
    rw [yesTo, noTo, rangeI_succ (Nat.zero_le _)]
    split
    · rw [List.append_assoc]
      refine List.Perm.trans (List.Perm.append_left _ List.perm_append_comm) ?_
      rw [← List.append_assoc]
      exact List.Perm.append_right _ ih
    · rw [← List.append_assoc]
      exact List.Perm.append_right _ ih
theorem yes_pre (ns : List Nod) (s : Sch) (vss : List (List Val)) (k : Nat) : ∀ d, ∃ r, yesTo ns s vss (k + d) = yesTo ns s vss k ++ r ∧ ∀ x ∈ r, (k : Int) ≤ x
  | 0 => ⟨[], by simp, by simp⟩
  | d + 1 => by
    obtain ⟨r, h1, h2⟩ := yes_pre ns s vss k d
    rw [show k + (d + 1) = (k + d) + 1 by omega, yesTo]
    split
    · refine ⟨r ++ [((k + d : Nat) : Int)], by rw [h1, List.append_assoc], fun x hx => ?_⟩
      rcases List.mem_append.1 hx with hx | hx
      · exact h2 x hx
      · simp at hx; omega
    · exact ⟨r, h1, h2⟩
theorem stO_yes (ns : List Nod) (s : Sch) (vss : List (List Val)) (n : Nat) : ∀ i, i ≤ n → stO (yesTo ns s vss n) i = ((yesTo ns s vss i).length, noTo ns s vss i)
  | 0, _ => rfl
  | i + 1, hi => by
    have ih := stO_yes ns s vss n i (by omega)
    by_cases h : (truthR ns s (vss.getD i [])).1 = 1
    · obtain ⟨r, h1, _⟩ := yes_pre ns s vss (i + 1) (n - (i + 1))
      rw [show i + 1 + (n - (i + 1)) = n by omega] at h1
      have e : yesTo ns s vss (i + 1) = yesTo ns s vss i ++ [(i : Int)] := by rw [yesTo, if_pos h]
      have hx : (yesTo ns s vss n)[(yesTo ns s vss i).length]? = some (i : Int) := by
        rw [h1, e, List.append_assoc, List.getElem?_append_right (Nat.le_refl _)]
        simp
      rw [stO_hit ih hx, e, noTo, if_pos h, List.length_append]
      rfl
    · obtain ⟨r, h1, h2⟩ := yes_pre ns s vss (i + 1) (n - (i + 1))
      rw [show i + 1 + (n - (i + 1)) = n by omega] at h1
      have e : yesTo ns s vss (i + 1) = yesTo ns s vss i := by rw [yesTo, if_neg h]
      have hx : (yesTo ns s vss n)[(yesTo ns s vss i).length]? ≠ some (i : Int) := by
        rw [h1, e, List.getElem?_append_right (Nat.le_refl _), Nat.sub_self]
        intro hr
        have := h2 _ (List.mem_of_getElem? hr)
        omega
      rw [stO_miss ih hx, e, noTo, if_neg h]
/-- The places that a predicate does not take. -/
theorem without_yes (ns : List Nod) (s : Sch) (vss : List (List Val)) (n : Nat) (hn : n ≤ 4096) : withoutR (n : Int) (yesTo ns s vss n) = (noTo ns s vss n, 0) := by
  have h := out_without (n : Int) (yesTo ns s vss n)
  have h2 : outO (n : Int) (yesTo ns s vss n) = (noTo ns s vss n, true) := by
    rw [outO, if_neg (by omega), Int.toNat_natCast, stO_yes ns s vss n n (Nat.le_refl _), if_pos rfl]
  rw [h2] at h
  injection h with e1 e2
  refine Prod.ext e1.symm ?_
  simpa using e2.symm
theorem range_mem (x : Int) : ∀ n, x ∈ rangeI 0 n ↔ 0 ≤ x ∧ x < (n : Int)
  | 0 => by simp [rangeI]
  | n + 1 => by
    rw [rangeI_succ (Nat.zero_le _), List.mem_append, range_mem x n]
    simp
    omega
end Go.Proofs.YtnphokhehacfnaaGreatDoor

namespace Go.Proofs.YtnphokhehacfnaaGreatDoor
open Go.RowKit

theorem no_filter (ns : List Nod) (s : Sch) (vss : List (List Val)) : ∀ k, k ≤ vss.length → (noTo ns s vss k).map (fun x => vss.getD x.toNat []) = (vss.take k).filter (fun vs => !yesV ns s vs)
  | 0, _ => rfl
  | k + 1, h => by
    rw [noTo, List.take_add_one, getD_at (by omega), Option.toList_some, List.filter_append]
    have ih := no_filter ns s vss k (by omega)
    by_cases hy : (truthR ns s (vss.getD k [])).1 = 1
    · rw [if_pos hy, ih, List.filter_cons, if_neg (by rw [yesV, hy]; simp)]
      simp
    · rw [if_neg hy, List.map_append, ih, List.filter_cons, if_pos (by rw [yesV, beq_eq_false_iff_ne.2 hy]; rfl)]
      simp
theorem no_bds (ns : List Nod) (s : Sch) (vss : List (List Val)) (k : Nat) : ∀ x ∈ noTo ns s vss k, 0 ≤ x ∧ x < (k : Int) := by
  intro x hx
  have := (yes_no_perm ns s vss k).mem_iff.1 (List.mem_append_right _ hx)
  exact (range_mem x k).1 this
end Go.Proofs.YtnphokhehacfnaaGreatDoor

namespace Go.Proofs.YtnphokhehacfnaaGreatDoor
open Go.RowKit

/-- A row's slice is put anew. -/
theorem Doer.setRow {w w1 : World} {g D T O : Nat} {t : TbA} {o : OpA} (h : Doer w g D T O t o) {k : Nat} {r r' : RowA} (hk : t.rs[k]? = some r) (hgw : g ≤ w.heap.size)
    (hg : w.grownBy w1 (ob r.A)) (hr' : Own w1 g 36 4 (.slice r'.A r'.vs.length r'.cap) (r'.vs.map Val.cells)) (hob : ob r'.A = ob r.A ∨ ∃ q, ob r'.A = some q ∧ w.heap.size ≤ q) {gR : Nat} (hAr : t.Ar = some ⟨gR, 0, none⟩) :
    Doer (w1.setCell ⟨gR, k, none⟩ (.slice r'.A r'.vs.length r'.cap)) g D T O (t.with_ (t.rs.set k r')) o ∧ Mt g T w (w1.setCell ⟨gR, k, none⟩ (.slice r'.A r'.vs.length r'.cap)) := by
  have hrow := h.own.rows.rows.out
  have hr := h.own.rows.rows.rows r (List.mem_of_getElem? hk)
  have hg' : w.grownBy w1 (Value.slice r.A r.vs.length r.cap).ownBlock := by rw [ob_eq]; exact hg
  have d1 := h.d.grown hg' (hr.ne_ h.d (by decide))
  have t1 := h.tb.grown hg' (hr.ne_ h.tb (by decide))
  have o1 := h.op.grown hg' (hr.ne_ h.op (by decide))
  have c1 := h.own.cols.grown_other hg' fun q hq hh => own_ne hr h.own.cols (by decide) q hh hq
  have f1 := h.own.flds.grown_other hg' fun q hq hh => own_ne hr h.own.flds (by decide) q hh hq
  have r1 := hrow.grown_other hg' fun q hq hh => own_ne hr hrow (by decide) q hh hq
  have hl : 0 < (t.rs.map RowA.cells).length := by have := (List.getElem?_eq_some_iff.1 hk).1; simp; omega
  obtain ⟨gR2, cur, e2, _, hgR, hb, _⟩ := r1.blk hl
  rw [hAr] at e2
  injection e2 with e2
  injection e2 with e2
  subst e2
  have hrows := h.own.rows
  rw [hAr] at hrows
  have hs := hrows.setRow hk hg hr' hob
  refine ⟨⟨d1.far (p := ⟨gR, k, none⟩) (d1.ne_ hb (by decide)) _, ?_, o1.far (p := ⟨gR, k, none⟩) (o1.ne_ hb (by decide)) _, ⟨c1.set_other hb (by decide) k _, h.own.ccap, f1.set_other hb (by decide) k _, ?_⟩, h.gT⟩, (Mt.row hr hg' hgw).trans (Mt.grown hgR hb (Or.inr rfl) (grown_setCell w1 gR k _))⟩
  · have := t1.far (p := ⟨gR, k, none⟩) (t1.ne_ hb (by decide)) (.slice r'.A r'.vs.length r'.cap)
    unfold TbA.cells TbA.with_ at *
    simp only [List.length_set]
    exact this
  · show OwnD _ _ t.Ar (t.rs.set k _).length _ _
    rw [List.length_set, hAr]
    exact hs
end Go.Proofs.YtnphokhehacfnaaGreatDoor

