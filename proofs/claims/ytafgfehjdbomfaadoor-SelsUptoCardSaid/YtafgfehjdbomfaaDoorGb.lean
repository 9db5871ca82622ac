/-
  sel.Without: all places but some.
-/
import Derived.Test.YtafgfehjdbomfaaDoorPn
import Derived.Test.YtafgfehjdbomfaaDoorBase
namespace Go.Proofs.YtafgfehjdbomfaaDoor
open Go.RowKit

/-- The numbers from a up to b. -/
def rangeI (a : Nat) : Nat → List Int
  | 0 => []
  | b + 1 => if a ≤ b then rangeI a b ++ [(b : Int)] else []
theorem rangeI_len (a : Nat) : ∀ b, (rangeI a b).length = b - a
  | 0 => by simp [rangeI]
  | b + 1 => by
    have := rangeI_len a b
    rw [rangeI]
    split
    · simp; omega
    · simp; omega
theorem rangeI_self (a : Nat) : rangeI a a = [] := by
  cases a with
  | zero => rfl
  | succ a => rw [rangeI, if_neg (by omega)]
theorem rangeI_succ {a b : Nat} (h : a ≤ b) : rangeI a (b + 1) = rangeI a b ++ [(b : Int)] := by rw [rangeI, if_pos h]
/-- What stands when j places are left out: the next number, and what is given so far. -/
def stW (many : Int) (at_ : List Int) : Nat → Option (Nat × List Int)
  | 0 => some (0, [])
  | j + 1 => match stW many at_ j with
    | some st => if at_.getD j 0 < (st.1 : Int) ∨ many ≤ at_.getD j 0 then none else some ((at_.getD j 0).toNat + 1, st.2 ++ rangeI st.1 (at_.getD j 0).toNat)
    | none => none
def withoutR (many : Int) (at_ : List Int) : List Int × Int :=
  if many < 0 ∨ 4096 < many then ([], 1600) else match stW many at_ at_.length with
    | some st => (st.2 ++ rangeI st.1 many.toNat, 0)
    | none => ([], 1600)
theorem stW_none {many : Int} {at_ : List Int} {j : Nat} (h : stW many at_ j = none) : ∀ d, stW many at_ (j + d) = none
  | 0 => h
  | d + 1 => by rw [show j + (d + 1) = (j + d) + 1 from rfl, stW, stW_none h d]
theorem stW_bd {many : Int} {at_ : List Int} (hm : 0 ≤ many ∧ many ≤ 4096) : ∀ j st, stW many at_ j = some st → (st.1 : Int) ≤ many ∧ st.2.length ≤ st.1
  | 0, st, h => by simp [stW] at h; subst h; exact ⟨hm.1, Nat.le_refl _⟩
  | j + 1, st, h => by
    rw [stW] at h
    cases hj : stW many at_ j with
    | none => rw [hj] at h; simp at h
    | some s0 =>
      rw [hj] at h
      have ih := stW_bd hm j s0 hj
      simp only at h
      split at h
      · simp at h
      · rename_i hc
        obtain rfl := Option.some.inj h
        have := rangeI_len s0.1 (at_.getD j 0).toNat
        refine ⟨by simp only []; omega, ?_⟩
        simp only [List.length_append, this]
        omega
theorem stW_step {many : Int} {at_ : List Int} {j n xn : Nat} {o : List Int} (h : stW many at_ j = some (n, o)) (hx : at_[j]? = some (xn : Int)) (h1 : n ≤ xn) (h2 : (xn : Int) < many) : stW many at_ (j + 1) = some (xn + 1, o ++ rangeI n xn) := by
  have hg : at_.getD j 0 = (xn : Int) := by rw [List.getD_eq_getElem?_getD, hx]; rfl
  rw [stW, h]
  simp only [hg]
  rw [if_neg (by omega)]
  simp
theorem stW_bad {many : Int} {at_ : List Int} {j n : Nat} {x : Int} {o : List Int} (h : stW many at_ j = some (n, o)) (hx : at_[j]? = some x) (hb : x < (n : Int) ∨ many ≤ x) : stW many at_ at_.length = none := by
  have hg : at_.getD j 0 = x := by rw [List.getD_eq_getElem?_getD, hx]; rfl
  have h1 : stW many at_ (j + 1) = none := by
    rw [stW, h]
    simp only [hg]
    rw [if_pos hb]
  have hj := (List.getElem?_eq_some_iff.1 hx).1
  have := stW_none h1 (at_.length - (j + 1))
  rwa [show j + 1 + (at_.length - (j + 1)) = at_.length by omega] at this

set_option maxRecDepth 100000 in
set_option maxHeartbeats 16000000 in
theorem pwithout_any {w0 : World} (many : Int) (at_ : List Int) (Aa : Option Addr) (ca : Nat) (w : World) (ha : SlAt w0 w0.heap.size 1 Aa (intCells at_)) [f0 : Fut w0 w] (hal : at_.length ≤ 4611686018427387904) :
    Calls Tryd.prog 15 #[.int .i64 many, .slice Aa at_.length ca] w fun e w' => ∃ (A' : Option Addr) (c' : Nat), e = .returned (.tuple #[.slice A' (withoutR many at_).1.length c', .int .i64 (withoutR many at_).2]) ∧ Own w' w.heap.size 3 1 (.slice A' (withoutR many at_).1.length c') (intCells (withoutR many at_).1) ∧ Step w w' := by
  have z0 := f0.below.size
  obtain ⟨T, hT⟩ : ∃ T, withoutR many at_ = T := ⟨_, rfl⟩
  have HT := hide hT
  rw [hT]
  clear hT
  by_cases h0 : many < 0
  · obtain rfl : T = ([], 1600) := by rw [← HT.out, withoutR, if_pos (.inl h0)]
    go_enter Tryd.func15, Tryd.ntmps15
    go_wp2_with fail
    go_ret2
    exact ⟨none, 0, rfl, Own.nil_ _ _ _ _, Step.of⟩
  · by_cases h1 : 4096 < many
    · obtain rfl : T = ([], 1600) := by rw [← HT.out, withoutR, if_pos (.inr h1)]
      go_enter Tryd.func15, Tryd.ntmps15
      go_wp2_with fail
      go_ret2
      exact ⟨none, 0, rfl, Own.nil_ _ _ _ _, Step.of⟩
    · obtain ⟨M, rfl⟩ : ∃ M : Nat, many = (M : Int) := ⟨many.toNat, by omega⟩
      have hM : M ≤ 4096 := by omega
      have HNB : Hid (¬ ((M : Int) < 0 ∨ 4096 < (M : Int))) := by show ¬ _; omega
      have HBD := hide (stW_bd (many := (M : Int)) (at_ := at_) ⟨by omega, by omega⟩)
      go_enter Tryd.func15, Tryd.ntmps15
      go_wp2_with fail
      clear h0 h1
      go_loopw [6, 7, 9, 18] (fun out nx _ i wr => ∃ (j n m : Nat) (A' : Option Addr) (c' : Nat) (o : List Int), j ≤ at_.length ∧ i = .int .i64 j ∧ Hid (stW (M : Int) at_ j = some (n, o)) ∧ nx = .int .i64 n ∧ out = .slice A' m c' ∧ Hid (o.length = m) ∧ Own wr w.heap.size 3 1 (.slice A' m c') (intCells o) ∧ Step w wr) (fun _ _ _ i _ => at_.length - (intOf i).toNat)
      case atStart => exact ⟨0, 0, 0, none, 0, [], Nat.zero_le _, rfl, rfl, rfl, rfl, rfl, Own.nil_ _ _ _ _, Step.of⟩
      case round =>
        obtain ⟨j, n, m, A', c', o, hj, rfl, HS, rfl, rfl, HM, hown, hst⟩ := hrel
        have HO := hide hown; clear hown
        obtain ⟨wo, rfl⟩ : ∃ x : World, x = wr := ⟨_, rfl⟩
        have hzo := hst.size
        have hnb := HBD.out j (n, o) HS.out
        have hn1 : (n : Int) ≤ (M : Int) := hnb.1
        have hn2 : o.length ≤ n := hnb.2
        have HMN : Hid (m ≤ n) := by show m ≤ n; have := HM.out; omega
        clear hnb hn2
        by_cases hlt : j < at_.length
        · obtain ⟨b, off, rfl, hb, hc⟩ := ha.elem (w' := wo) inferInstance (k := j) (by rw [intCells_len]; exact hlt)
          obtain ⟨x, hx⟩ : ∃ x, at_[j]? = some x := ⟨_, List.getElem?_eq_getElem hlt⟩
          have x0 := At.l1 (hc j [.int .i64 x] (by simp [intCells, hx]))
          simp only [Nat.mul_one] at x0
          have hlb : b < wo.heap.size := by omega
          have hjl : (j : Int) < (at_.length : Int) := by omega
          have HX := hide hx
          clear hc hx
          by_cases hx1 : x < (n : Int)
          · have HBAD := hide (stW_bad HS.out HX.out (.inl hx1))
            obtain rfl : T = ([], 1600) := by rw [← HT.out, withoutR, if_neg HNB.out, HBAD.out]
            go_wp2_with fail
            go_ret2
            exact ⟨none, 0, rfl, Own.nil_ _ _ _ _, Step.of⟩
          · by_cases hx2 : (M : Int) ≤ x
            · have HBAD := hide (stW_bad HS.out HX.out (.inr hx2))
              obtain rfl : T = ([], 1600) := by rw [← HT.out, withoutR, if_neg HNB.out, HBAD.out]
              go_wp2_with fail
              go_ret2
              exact ⟨none, 0, rfl, Own.nil_ _ _ _ _, Step.of⟩
            · obtain ⟨xn, rfl⟩ : ∃ xn : Nat, x = (xn : Int) := ⟨x.toNat, by omega⟩
              have hnx : n ≤ xn := by omega
              have hxM : xn < M := by omega
              have HST := hide (stW_step HS.out HX.out hnx (by omega))
              go_wp2_with fail
              clear x0 hlb hx1 hx2
              go_loopw [6, 7] (fun out nx wr => ∃ (q m' : Nat) (A'' : Option Addr) (c'' : Nat), n ≤ q ∧ q ≤ xn ∧ nx = .int .i64 q ∧ out = .slice A'' m' c'' ∧ Hid ((o ++ rangeI n q).length = m') ∧ Own wr w.heap.size 3 1 (.slice A'' m' c'') (intCells (o ++ rangeI n q)) ∧ Step w wr) (fun _ nx _ => xn - (intOf nx).toNat)
              case atStart => exact ⟨n, m, A', c', Nat.le_refl _, hnx, rfl, rfl, by show _ = _; rw [rangeI_self, List.append_nil, HM.out], by rw [rangeI_self, List.append_nil]; exact HO.out, Step.of⟩
              case round =>
                obtain ⟨q, m', A'', c'', hq1, hq2, rfl, rfl, HM', hown, hst'⟩ := hrel
                have HO := hide hown; clear hown
                obtain ⟨wi, rfl⟩ : ∃ x : World, x = wr := ⟨_, rfl⟩
                have hzi := hst'.size
                by_cases hqx : q < xn
                · have hqi : (q : Int) < (xn : Int) := by omega
                  have HL : Hid ((intCells (o ++ rangeI n q)).length = m') := by show _ = _; rw [intCells_len]; exact HM'.out
                  have hmq : m' ≤ 8192 := by
                    have h1 := HM'.out
                    have h2 := HM.out
                    have h3 := HMN.out
                    rw [List.length_append, rangeI_len] at h1
                    omega
                  have HNew := hide (SlAt.one wi 1 [.int .i64 (q : Int)] 3)
                  have HOw := hide (HO.out.alloc (.cells #[.int .i64 (q : Int)] 3))
                  go_wp2_with (at_builtin; go_loud (refine wpList_append_sl rfl (.tmp 35) (.tmp 37) 29 rfl eiInt (base := w.heap.size) (xs := intCells (o ++ rangeI n q)) rfl HOw.out (int_fit _) (ys := [[.int .i64 (q : Int)]]) rfl (by simp) HNew.out (int_fit [(q : Int)]) (by rw [HL.out]; show (m' + 1) * 8 ≤ _; omega) (fut w (wi.alloc (.cells #[.int .i64 (q : Int)] 3))).size (N := m' + 1) (by rw [HL.out]; rfl) ?_; intro A5 c5 w5 hq5 hq6 hown5 hgr5 hbel5; have H5 := hide hown5; have HB5 := hide hbel5; clear hown5 hgr5 hbel5))
                  go_roundw
                  case rel =>
                    refine ⟨q + 1, m' + 1, A5, c5, by omega, by omega, by go_num, rfl, ?_, ?_, ⟨(fut w (wi.alloc (.cells #[.int .i64 (q : Int)] 3))).trans HB5.out⟩⟩
                    · show _ = _
                      rw [rangeI_succ hq1, ← List.append_assoc, List.length_append, HM'.out]; rfl
                    · rw [rangeI_succ hq1, ← List.append_assoc]
                      have := H5.out
                      simpa [intCells] using this
                  case measure => simp [intOf]; omega
                · obtain rfl : q = xn := by omega
                  have hqi : ¬ (q : Int) < (q : Int) := by omega
                  go_wp2_with fail
                  go_roundw
                  case rel => exact ⟨j + 1, q + 1, m', A'', c'', o ++ rangeI n q, by omega, by go_num, HST, by go_num, rfl, HM', HO.out, Step.of⟩
                  case measure => simp [intOf]; omega
        · obtain rfl : j = at_.length := by omega
          obtain rfl : T = (o ++ rangeI n M, 0) := by rw [← HT.out, withoutR, if_neg HNB.out, HS.out]; rfl
          go_wp2_with fail
          go_loopw [6, 7] (fun out nx wr => ∃ (q m' : Nat) (A'' : Option Addr) (c'' : Nat), n ≤ q ∧ q ≤ M ∧ nx = .int .i64 q ∧ out = .slice A'' m' c'' ∧ Hid ((o ++ rangeI n q).length = m') ∧ Own wr w.heap.size 3 1 (.slice A'' m' c'') (intCells (o ++ rangeI n q)) ∧ Step w wr) (fun _ nx _ => M - (intOf nx).toNat)
          case atStart => exact ⟨n, m, A', c', Nat.le_refl _, by omega, rfl, rfl, by show _ = _; rw [rangeI_self, List.append_nil, HM.out], by rw [rangeI_self, List.append_nil]; exact HO.out, Step.of⟩
          case round =>
            obtain ⟨q, m', A'', c'', hq1, hq2, rfl, rfl, HM', hown, hst'⟩ := hrel
            have HO := hide hown; clear hown
            obtain ⟨wi, rfl⟩ : ∃ x : World, x = wr := ⟨_, rfl⟩
            have hzi := hst'.size
            by_cases hqx : q < M
            · have hqi : (q : Int) < (M : Int) := by omega
              have HL : Hid ((intCells (o ++ rangeI n q)).length = m') := by show _ = _; rw [intCells_len]; exact HM'.out
              have hmq : m' ≤ 8192 := by
                have h1 := HM'.out
                have h2 := HM.out
                have h3 := HMN.out
                rw [List.length_append, rangeI_len] at h1
                omega
              have HNew := hide (SlAt.one wi 1 [.int .i64 (q : Int)] 3)
              have HOw := hide (HO.out.alloc (.cells #[.int .i64 (q : Int)] 3))
              go_wp2_with (at_builtin; go_loud (refine wpList_append_sl rfl (.tmp 47) (.tmp 49) 29 rfl eiInt (base := w.heap.size) (xs := intCells (o ++ rangeI n q)) rfl HOw.out (int_fit _) (ys := [[.int .i64 (q : Int)]]) rfl (by simp) HNew.out (int_fit [(q : Int)]) (by rw [HL.out]; show (m' + 1) * 8 ≤ _; omega) (fut w (wi.alloc (.cells #[.int .i64 (q : Int)] 3))).size (N := m' + 1) (by rw [HL.out]; rfl) ?_; intro A5 c5 w5 hq5 hq6 hown5 hgr5 hbel5; have H5 := hide hown5; have HB5 := hide hbel5; clear hown5 hgr5 hbel5))
              go_roundw
              case rel =>
                refine ⟨q + 1, m' + 1, A5, c5, by omega, by omega, by go_num, rfl, ?_, ?_, ⟨(fut w (wi.alloc (.cells #[.int .i64 (q : Int)] 3))).trans HB5.out⟩⟩
                · show _ = _
                  rw [rangeI_succ hq1, ← List.append_assoc, List.length_append, HM'.out]; rfl
                · rw [rangeI_succ hq1, ← List.append_assoc]
                  have := H5.out
                  simpa [intCells] using this
              case measure => simp [intOf]; omega
            · obtain rfl : q = M := by omega
              have hqi : ¬ (q : Int) < (q : Int) := by omega
              go_wp2_with fail
              go_ret2
              have HL2 : o.length + (rangeI n q).length = m' := by have := HM'.out; rw [List.length_append] at this; exact this
              exact ⟨A'', c'', by rw [HL2]; rfl, by rw [HL2]; exact HO.out, Step.of⟩
end Go.Proofs.YtafgfehjdbomfaaDoor
