/-
  The document's own answer: Columns. The law's kept.
-/
import Derived.Test.YtcgpfllkbflbhaaDoorQb
import Derived.Test.YtcgpfllkbflbhaaDoorPc
namespace Go.Proofs.YtcgpfllkbflbhaaDoor
open Go.RowKit

set_option maxRecDepth 100000 in
set_option maxHeartbeats 8000000 in
theorem rcols_any {w0 : World} (ns : List Nod) (A : Option Addr) (cap : Nat) (w : World) (h : PrIn w0 ns A cap) [hf : Fut w0 w] :
    Calls Tryd.prog 26 #[.agg #[.slice A ns.length cap]] w fun e w' => ∃ (A' : Option Addr) (c' : Nat), e = .returned (.slice A' (colsT ns).length c') ∧ Own w' w.heap.size 9 1 (.slice A' (colsT ns).length c') (strCells (colsT ns)) ∧ Step w w' := by
  have hl := h.len
  have hz := hf.below.size
  have HPB := hide (Blk.new w [.slice A ns.length cap] 24)
  have pm := fun w' [Fut w0 w'] => rpred_any ns A cap w' h
  obtain ⟨R, hR⟩ : ∃ R, colsT ns = R := ⟨_, rfl⟩
  have HR := hide hR
  rw [hR]
  clear hR
  cases hpb : predB ns with
  | false =>
    have HX : Hid (R = []) := by show _ = _; rw [← HR.out, colsT, hpb]; rfl
    rw [hpb] at pm
    have PM := hide pm
    clear pm hpb
    go_enter Tryd.func26, Tryd.ntmps26
    go_wp2_with fail
    refine (PM.out _).mono ?_
    rintro e w2 ⟨rfl, hs2⟩
    go_wp2_with fail
    go_ret
    exact ⟨none, 0, by rw [HX.out]; rfl, by rw [HX.out]; exact Own.nil_ _ _ _ _, Step.of⟩
  | true =>
    have HX : Hid (R = ns.foldl colsStep []) := by show _ = _; rw [← HR.out, colsT, hpb]; rfl
    have h24 : ns.length ≤ 24 := by
      have := hpb
      simp only [predB, Bool.and_eq_true, decide_eq_true_eq] at this
      exact this.1
    rw [hpb] at pm
    have PM := hide pm
    clear pm hpb
    go_enter Tryd.func26, Tryd.ntmps26
    go_wp2_with fail
    refine (PM.out _).mono ?_
    rintro e w2 ⟨rfl, hs2⟩
    have z2 := hs2.size
    simp only [hsz] at z2
    go_wp2_with fail
    go_loopw [3, 4, 5, 6, 7] (fun v i _ _ _ wr => ∃ (k m : Nat) (A' : Option Addr) (c' : Nat), k ≤ ns.length ∧ m ≤ k ∧ i = .int .i64 k ∧ v = .slice A' m c' ∧ Hid (((ns.take k).foldl colsStep []).length = m) ∧ Own wr w2.heap.size 9 1 (.slice A' m c') (strCells ((ns.take k).foldl colsStep [])) ∧ Step w2 wr) (fun _ i _ _ _ _ => ns.length - (intOf i).toNat)
    case atStart => exact ⟨0, 0, none, 0, Nat.zero_le _, Nat.zero_le _, rfl, rfl, hide rfl, Own.nil_ _ _ _ _, Step.of⟩
    case round =>
      obtain ⟨wo, rfl⟩ : ∃ wo : World, wo = wr := ⟨_, rfl⟩
      obtain ⟨k, m, A', c', hk, hm, rfl, rfl, HM, hown, hst⟩ := hrel
      have HO := hide hown; clear hown
      have hs1 := hst.size
      have p0 := At.z1 (HPB.out.fut (w' := wo)).at0
      have lp : w.heap.size < wo.heap.size := by omega
      by_cases hlt : k < ns.length
      · obtain ⟨b, off, rfl, hb, n, hn, hat⟩ := h.node (w' := wo) inferInstance hlt
        have hlb : b < wo.heap.size := by omega
        have HN := hide hn; clear hn
        obtain ⟨n0, n1, n2, n3, n4, n5, n6, n7, n8⟩ := At.l9 hat
        clear hat
        have HT := hide (cols_take ns k n HN.out)
        obtain ⟨ac, hac⟩ : ∃ ac, (ns.take k).foldl colsStep [] = ac := ⟨_, rfl⟩
        rw [hac] at HO HM HT
        clear hac
        obtain ⟨W1, hW1⟩ : ∃ X, X = wo.alloc (.cells #[.int .i64 n.kind, .string n.col, .int .i64 n.cmp, .int .i64 n.v.kind, .int .i64 n.v.i, .bool n.v.b, .string n.v.s, .int .i64 n.l, .int .i64 n.r] 55) := ⟨_, rfl⟩
        have S1 : Step wo W1 := by rw [hW1]; exact Step.of
        have HX1 : Hid (Blk W1 wo.heap.size 55 [.int .i64 n.kind, .string n.col, .int .i64 n.cmp, .int .i64 n.v.kind, .int .i64 n.v.i, .bool n.v.b, .string n.v.s, .int .i64 n.l, .int .i64 n.r]) := by rw [hW1]; exact Blk.new wo [.int .i64 n.kind, .string n.col, .int .i64 n.cmp, .int .i64 n.v.kind, .int .i64 n.v.i, .bool n.v.b, .string n.v.s, .int .i64 n.l, .int .i64 n.r] 55
        have hzW1 : wo.heap.size < W1.heap.size := by rw [hW1]; simp
        have HW1 := hide hW1
        clear hW1
        have hth : ∃ th0 : Bool, th0 = !asks n ∧ ((th0 = false ∧ (n.kind == 1) = true ∧ (n.kind != 1) = false) ∨ (th0 = false ∧ (n.kind != 1) = true ∧ (n.kind != 2) = false) ∨ (th0 = true ∧ (n.kind != 1) = true ∧ (n.kind != 2) = true)) := by
          refine ⟨_, rfl, ?_⟩
          unfold asks
          by_cases e1 : n.kind = 1
          · exact .inl (by simp [e1])
          · by_cases e2 : n.kind = 2
            · exact .inr (.inl (by simp [e2]))
            · exact .inr (.inr (by simp [e1, e2]))
        obtain ⟨th0, hta, hth⟩ := hth
        have HTA := hide hta
        clear hta
        have HE : Hid ((ns.take (k + 1)).foldl colsStep [] = if th0 || ac.any (isS n.col) then ac else ac ++ [n.col]) := by
          show _ = _
          rw [HT.out]
          cases ha : asks n with
          | false => rw [colsStep_no ha, HTA.out, ha]; simp
          | true =>
            cases hin : ac.any (isS n.col) with
            | true => rw [colsStep_in hin, if_pos (by simp)]
            | false => rw [colsStep_new ha hin, HTA.out, ha, if_neg (by simp)]
        rcases hth with ⟨ht, e1, e2⟩ | ⟨ht, e1, e2⟩ | ⟨ht, e1, e2⟩
        all_goals
          have HT0 := hide ht
          clear ht
          go_upto_region 9 with (fail)
          rw [← HW1.out]
          clear n0 n1 n2 n3 n4 n5 n6 n7 n8 p0 lp
          go_wp2_with fail
          go_loopw [6, 7] (fun th kk w' => ∃ j : Nat, j ≤ m ∧ kk = .int .i64 j ∧ th = .bool (th0 || (ac.take j).any (isS n.col)) ∧ Step W1 w') (fun _ kk _ => m - (intOf kk).toNat)
          case atStart => exact ⟨0, Nat.zero_le _, rfl, by rw [HT0.out]; rfl, Step.of⟩
          case round =>
            obtain ⟨j, hj, rfl, rfl, hst2⟩ := hrel
            have hs2' := hst2.size
            obtain ⟨n0, n1, n2, n3, n4, n5, n6, n7, n8⟩ := At.z9 (HX1.out.fut (w' := wr)).at0
            have ln : wo.heap.size < wr.heap.size := by omega
            have HO2 := hide (HO.out.fut (w' := wr))
            by_cases hjm : j < m
            · obtain ⟨x, hx⟩ : ∃ x, ac[j]? = some x := ⟨_, List.getElem?_eq_getElem (by have := HM.out; omega)⟩
              have hxx : j < ac.length := by have := HM.out; omega
              have HJ : Hid ((ac.take (j + 1)).any (isS n.col) = ((ac.take j).any (isS n.col) || isS n.col x)) := by show _ = _; rw [any_take_succ (isS n.col) ac j hxx, (List.getElem?_eq_some_iff.1 hx).2]
              obtain ⟨bo, oo, rfl, hbo, hco⟩ := (HO2.out.sl (str_fit _).len).elem (Fut.self _) (k := j) (by rw [strCells_len]; exact hxx)
              have c0 := At.l1 (hco j [.string x] (by simp [strCells, hx]))
              simp only [Nat.mul_one] at c0
              have hj0 : (0 : Int) ≤ (j : Int) := by omega
              have hj1 : (j : Int) < (m : Int) := by omega
              clear hco hx hxx
              obtain ⟨tj, htj⟩ : ∃ tj, (th0 || (ac.take j).any (isS n.col)) = tj := ⟨_, rfl⟩
              have HTJ := hide htj
              rw [htj]
              clear htj
              obtain ⟨q, hq⟩ : ∃ q, isS n.col x = q := ⟨_, rfl⟩
              have HQ : Hid ((th0 || (ac.take (j + 1)).any (isS n.col)) = (tj || q)) := by show _ = _; rw [HJ.out, hq, ← Bool.or_assoc, HTJ.out]
              have hq' : (x.toList == n.col.toList) = q := hq
              clear hq
              cases tj
              all_goals
                go_wp2_with fail
                go_quiet (fail)
                go_wp2_with fail
                go_roundw
                case rel => exact ⟨j + 1, by omega, by go_num, by rw [HQ.out]; simp, Step.of⟩
                case measure => simp [intOf]; omega
            · obtain rfl : j = m := by omega
              have hfull : (ac.take j).any (isS n.col) = ac.any (isS n.col) := by rw [List.take_of_length_le (by have := HM.out; omega)]
              have HE2 := HE.out
              rw [← hfull] at HE2
              obtain ⟨tj, htj⟩ : ∃ tj, (th0 || (ac.take j).any (isS n.col)) = tj := ⟨_, rfl⟩
              rw [htj] at HE2
              rw [htj]
              have HE3 := hide HE2
              clear HE2 htj hfull
              cases tj
              · have HNew := hide (SlAt.one wr 1 [.string n.col] 9)
                have HOw := hide (HO2.out.alloc (.cells #[.string n.col] 9))
                go_wp2_with (at_builtin; go_loud (refine wpList_append_sl rfl (.tmp 49) (.tmp 52) 44 rfl eiStr (base := w2.heap.size) (xs := strCells ac) rfl HOw.out (str_fit _) (ys := [[.string n.col]]) rfl (by simp) HNew.out (str_fit [n.col]) (by rw [strCells_len, HM.out]; simp; omega) (by simp; omega) (N := j + 1) (by rw [strCells_len, HM.out]; rfl) ?_; intro A5 c5 w5 hq1 hq2 hown5 hgr5 hbel5; have H5 := hide hown5; have HB5 := hide hbel5; clear hown5 hgr5 hbel5))
                go_roundw
                case rel =>
                  refine ⟨k + 1, j + 1, A5, c5, by omega, by omega, by go_num, rfl, by rw [HE3.out]; exact hide (by simp [HM.out]), ?_, ⟨?_⟩⟩
                  · rw [HE3.out]
                    have := H5.out
                    simpa [strCells] using this
                  · exact (fut w2 (wr.alloc _)).trans HB5.out
                case measure => simp [intOf]; omega
              · go_wp2_with fail
                go_roundw
                case rel => exact ⟨k + 1, j, A', c', by omega, by omega, by go_num, rfl, by rw [HE3.out]; exact hide (by simpa using HM.out), by rw [HE3.out]; exact HO2.out, Step.of⟩
                case measure => simp [intOf]; omega
      · obtain rfl : k = ns.length := by omega
        have HT : Hid ((ns.take ns.length).foldl colsStep [] = R) := by show _ = _; rw [List.take_length]; exact HX.out.symm
        go_wp2_with fail
        go_ret
        have h1 := HO.out
        have h2 := HM.out
        rw [HT.out] at h1 h2
        exact ⟨A', c', by rw [h2]; rfl, by rw [h2]; exact h1.more (by omega), Step.of⟩

set_option maxHeartbeats 4000000 in
theorem kept_any {w1 w2 : World} (l : List Nod) (A1 A2 : Option Addr) (c1 c2 : Nat) (w : World) (h1 : PrIn w1 l A1 c1) (h2 : PrIn w2 l A2 c2) [f1 : Fut w1 w] [f2 : Fut w2 w] :
    Calls Tryd.prog 27 #[.agg #[.slice A1 l.length c1], .agg #[.slice A2 l.length c2]] w fun e w' => e = .returned (.bool true) ∧ Step w w' := by
  have hl := h1.len
  have z1 := f1.below.size
  have z2 := f2.below.size
  obtain ⟨W, hW⟩ : ∃ W, W = (w.alloc (.cells #[.slice A1 l.length c1] 24)).alloc (.cells #[.slice A2 l.length c2] 24) := ⟨_, rfl⟩
  have SW : Step w W := by rw [hW]; exact Step.of
  have HA : Hid (Blk W w.heap.size 24 [.slice A1 l.length c1]) := by rw [hW]; exact (Blk.new w [.slice A1 l.length c1] 24).alloc _
  have HB : Hid (Blk W (w.heap.size + 1) 24 [.slice A2 l.length c2]) := by rw [hW]; exact Blk.new_at (by simp) [.slice A2 l.length c2] 24
  have HZ : Hid (W.heap.size = w.heap.size + 1 + 1) := by rw [hW]; show _ = _; simp
  have HW := hide hW
  clear hW
  have hll : ((l.length : Int) != (l.length : Int)) = false := by simp
  go_enter Tryd.func27, Tryd.ntmps27
  go_wp2
  rw [← HW.out]
  go_loopw [5] (fun i wr => ∃ k : Nat, k ≤ l.length ∧ i = .int .i64 k ∧ Step W wr) (fun i _ => l.length - (intOf i).toNat)
  case atStart => exact ⟨0, Nat.zero_le _, rfl, Step.of⟩
  case round =>
    obtain ⟨k, hk, rfl, hs⟩ := hrel
    have hz := hs.size
    have hzz := HZ.out
    have a0 := At.z1 (HA.out.fut (w' := wr)).at0
    have b0 := At.z1 (HB.out.fut (w' := wr)).at0
    have la : w.heap.size < wr.heap.size := by omega
    have lb : w.heap.size + 1 < wr.heap.size := by omega
    clear hzz
    by_cases hlt : k < l.length
    · obtain ⟨b1, o1, rfl, hb1, x, hx, hc1⟩ := h1.node (w' := wr) inferInstance hlt
      obtain ⟨b2, o2, rfl, hb2, y, hy, hc2⟩ := h2.node (w' := wr) inferInstance hlt
      obtain rfl : x = y := by rw [hx] at hy; injection hy
      obtain ⟨p0, p1, p2, p3, p4, p5, p6, p7, p8⟩ := At.l9 hc1
      obtain ⟨q0, q1, q2, q3, q4, q5, q6, q7, q8⟩ := At.l9 hc2
      have l1 : b1 < wr.heap.size := by omega
      have l2 : b2 < wr.heap.size := by omega
      clear hc1 hc2 hx hy
      go_wp2
      go_quiet (fail)
      go_wp2
      go_roundw
      case rel => exact ⟨k + 1, by omega, by go_num, Step.of⟩
      case measure => simp [intOf]; omega
    · go_wp2_with fail
      go_ret
      exact ⟨rfl, Step.of⟩
end Go.Proofs.YtcgpfllkbflbhaaDoor
