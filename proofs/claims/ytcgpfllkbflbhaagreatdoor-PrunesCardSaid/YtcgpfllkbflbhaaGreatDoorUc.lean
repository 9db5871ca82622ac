/-
  The document's fold: the last node's set, of the leaves'.
-/
import Derived.Test.YtcgpfllkbflbhaaGreatDoorUa
import Derived.Test.YtcgpfllkbflbhaaGreatDoorPn
namespace Go.Proofs.YtcgpfllkbflbhaaGreatDoor
open Go.RowKit

theorem lastW_at {l : List Nat} {k y : Nat} (h : l.length = k + 1) (hy : l[k]? = some y) : lastW l = y := by
  unfold lastW
  rw [List.getLastD_eq_getLast?, List.getLast?_eq_getElem?, h, Nat.add_sub_cancel, hy]
  rfl
theorem yes_ask {s : Nat} (hs : s < 8) : (bits .and .i64 (s : Int) 2 == 2) = s.testBit 1 := by
  rcases lt8 hs with rfl | rfl | rfl | rfl | rfl | rfl | rfl | rfl <;> decide
def natI (l : List Nat) : List Int := l.map fun (k : Nat) => Int.ofNat k
theorem natI_get {l : List Nat} {k y : Nat} (h : l[k]? = some y) : (natI l)[k]? = some ((y : Nat) : Int) := by simp [natI, h]
theorem natI_len (l : List Nat) : (natI l).length = l.length := by simp [natI]

set_option maxRecDepth 100000 in
set_option maxHeartbeats 16000000 in
theorem rfold_any {w0 w1 : World} (ns : List Nod) (A : Option Addr) (cap : Nat) (s : Sch) (L : List Int) (Al : Option Addr) (cl : Nat) (leaf : Nod → Nat) (w : World) (hp : PrIn w0 ns A cap) (hck : checkE ns s = 0) (hlf : ∀ n, leaf n < 8)
    (hL : SlAt w1 w1.heap.size 1 Al (intCells L)) (hLl : L.length = ns.length) (hLv : ∀ (k : Nat) (n : Nod), ns[k]? = some n → n.kind = 1 ∨ n.kind = 2 → L[k]? = some ((leaf n : Nat) : Int)) [f0 : Fut w0 w] [f1 : Fut w1 w] :
    Calls Tryz.prog 32 #[.agg #[.slice A ns.length cap], .slice Al ns.length cl] w fun e w' => e = .returned (.bool (walkB leaf ns)) ∧ Step w w' := by
  have hl := hp.len
  have z0 := f0.below.size; have z1 := f1.below.size
  have CK := hide hck; have HLF := hide hlf; have HLL := hide hLl; have HLV := hide hLv
  clear hck hlf hLl hLv
  have h24 : ns.length ≤ 24 := (predB_iff.1 (checkE_inv CK.out).1).1
  obtain ⟨R, hR⟩ : ∃ R, walkB leaf ns = R := ⟨_, rfl⟩
  have HR := hide hR
  rw [hR]
  clear hR
  obtain ⟨W, hW⟩ : ∃ W, W = w.alloc (.cells #[.slice A ns.length cap] 24) := ⟨_, rfl⟩
  have SW : Step w W := by rw [hW]; exact Step.of
  have HPB : Hid (Blk W w.heap.size 24 [.slice A ns.length cap]) := by rw [hW]; exact Blk.new w [.slice A ns.length cap] 24
  have HW := hide hW
  have hzW := SW.size
  clear hW
  go_enter Tryz.func32, Tryz.ntmps32
  go_upto_region 1 with (fail)
  rw [← HW.out]
  go_wp2_with fail
  go_loopw [5, 6, 7, 8, 9] (fun ts i _ _ _ wr => ∃ (k : Nat) (A' : Option Addr) (c' : Nat), k ≤ ns.length ∧ i = .int .i64 k ∧ ts = .slice A' k c' ∧ Own wr W.heap.size 3 1 (.slice A' k c') (intCells (natI (evalW leaf (ns.take k)))) ∧ Step W wr) (fun _ i _ _ _ _ => ns.length - (intOf i).toNat)
  case atStart => exact ⟨0, none, 0, Nat.zero_le _, rfl, rfl, Own.nil_ _ _ _ _, Step.of⟩
  case round =>
    obtain ⟨k, A', c', hk, rfl, rfl, hown, hst⟩ := hrel
    have HO := hide hown; clear hown
    have hs1 := hst.size
    obtain ⟨wo, rfl⟩ : ∃ x : World, x = wr := ⟨_, rfl⟩
    have p0 := At.z1 (HPB.out.fut (w' := wo)).at0; have lp := (HPB.out.fut (w' := wo)).lt
    have HLN : Hid ((natI (evalW leaf (ns.take k))).length = k) := by show _ = _; rw [natI_len, evalW_len]; simp; omega
    by_cases hlt : k < ns.length
    · obtain ⟨b, off, rfl, hb, n, hn, hat⟩ := hp.node (w' := wo) inferInstance hlt
      have hlb : b < wo.heap.size := by omega
      have HN := hide hn; clear hn
      have hkl : (k : Int) < (ns.length : Int) := by omega
      have hk0 : (0 : Int) ≤ (k : Int) := by omega
      obtain ⟨x, hx8, HX, HTX⟩ : ∃ x, x < 8 ∧ Hid (stepW leaf (evalW leaf (ns.take k)) n = x) ∧ Hid (evalW leaf (ns.take (k + 1)) = evalW leaf (ns.take k) ++ [x]) := ⟨_, stepW_lt HLF.out _ _, rfl, evalW_take leaf ns k n HN.out⟩
      obtain ⟨n0, n1, n2, n3, n4, n5, n6, n7, n8⟩ := At.l9 hat
      clear hat
      go_upto_region 6 with (fail)
      obtain ⟨V, hV⟩ : ∃ V, V = wo.alloc (.cells #[.int .i64 n.kind, .string n.col, .int .i64 n.cmp, .int .i64 n.v.kind, .int .i64 n.v.i, .bool n.v.b, .string n.v.s, .int .i64 n.l, .int .i64 n.r] 66) := ⟨_, rfl⟩
      have SV : Step wo V := by rw [hV]; exact Step.of
      have HBB : Hid (Blk V wo.heap.size 66 [.int .i64 n.kind, .string n.col, .int .i64 n.cmp, .int .i64 n.v.kind, .int .i64 n.v.i, .bool n.v.b, .string n.v.s, .int .i64 n.l, .int .i64 n.r]) := by rw [hV]; exact Blk.new wo [.int .i64 n.kind, .string n.col, .int .i64 n.cmp, .int .i64 n.v.kind, .int .i64 n.v.i, .bool n.v.b, .string n.v.s, .int .i64 n.l, .int .i64 n.r] 66
      rw [← hV]
      clear hV n0 n1 n2 n3 n4 n5 n6 n7 n8 hlb p0 lp
      have hzV := SV.size
      obtain ⟨a0, a1, a2, a3, a4, a5, a6, a7, a8⟩ := At.z9 HBB.out.at0; have la := HBB.out.lt
      go_upto_block 2 with (fail)
      go_cut [8, 9, 24, 31, 48, 61] from 25 to 73 (fun t _ _ _ _ _ wx => t = .int .i64 (x : Int) ∧ Step V wx)
      case first =>
        have hkinds := node_kinds CK.out HN.out
        rcases hkinds with h0 | h12 | ⟨h3, l, hl', hlk⟩ | ⟨h45, l, r, hl', hr', hlk, hrk⟩
        · obtain rfl : x = 2 := ((stepW_true h0).symm.trans HX.out).symm
          have e1 : (n.kind == 1) = false := by simp [h0]
          have e2 : (n.kind == 2) = false := by simp [h0]
          have e3 : (n.kind == 3) = false := by simp [h0]
          have e4 : (n.kind == 4) = false := by simp [h0]
          have e5 : (n.kind == 5) = false := by simp [h0]
          clear h0
          go_wp2_with fail
          go_meet
          case rel => exact ⟨rfl, Step.of⟩
        · obtain rfl : x = leaf n := ((stepW_leaf (acc := evalW leaf (ns.take k)) h12).symm.trans HX.out).symm
          have hv := HLV.out k n HN.out h12
          obtain ⟨bl, ol, rfl, hbl, hcl⟩ := hL.elem (w' := V) inferInstance (k := k) (by rw [intCells_len, HLL.out]; exact hlt)
          have c0 := At.l1 (hcl k [.int .i64 ((leaf n : Nat) : Int)] (by simp [intCells, hv]))
          simp only [Nat.mul_one] at c0
          have hll : bl < V.heap.size := by omega
          have h12' : (n.kind == 1) = true ∨ (n.kind == 1) = false ∧ (n.kind == 2) = true := by rcases h12 with h | h <;> simp [h]
          clear h12 hcl hv
          obtain ⟨y, hy⟩ : ∃ y, ((leaf n : Nat) : Int) = y := ⟨_, rfl⟩
          rw [hy] at c0
          have HY := hide hy
          clear hy
          rcases h12' with e1 | ⟨e1, e2⟩
          all_goals
            go_wp2_with fail
            go_meet
            case rel => exact ⟨by rw [HY.out], Step.of⟩
        · obtain ⟨y, hy1, hy2, hy3⟩ := evalW_get HLF.out hk hlk
          have E := (stepW_not h3 hl' hy2).symm.trans HX.out
          obtain ⟨bo, oo, rfl, hbo, hco⟩ := ((HO.out.fut (w' := V)).sl (int_fit _).len).elem (Fut.self _) (k := l) (by rw [intCells_len, HLN.out]; exact hlk)
          have c0 := At.l1 (hco l [.int .i64 (y : Int)] (by simp [intCells, natI_get hy1]))
          simp only [Nat.mul_one] at c0
          rw [hl'] at a7
          have hl0 : (0 : Int) ≤ (l : Int) := by omega
          have hl1 : (l : Int) < (k : Int) := by omega
          have e1 : (n.kind == 1) = false := by simp [h3]
          have e2 : (n.kind == 2) = false := by simp [h3]
          have e3 : (n.kind == 3) = true := by simp [h3]
          have HE := hide E
          clear h3 hl' hlk hy1 hy2 hco E
          rcases lt8 hy3 with rfl | rfl | rfl | rfl | rfl | rfl | rfl | rfl
          all_goals
            go_wp2_with fail
            go_meet
            case rel => exact ⟨by rw [← HE.out]; kernel_rfl, Step.of⟩
        · obtain ⟨y, hy1, hy2, hy3⟩ := evalW_get HLF.out hk hlk
          obtain ⟨z, hz1, hz2, hz3⟩ := evalW_get HLF.out hk hrk
          have E := (stepW_two h45 hl' hr' hy2 hz2).symm.trans HX.out
          obtain ⟨bo, oo, rfl, hbo, hco⟩ := ((HO.out.fut (w' := V)).sl (int_fit _).len).elem (Fut.self _) (k := l) (by rw [intCells_len, HLN.out]; exact hlk)
          have c0 := At.l1 (hco l [.int .i64 (y : Int)] (by simp [intCells, natI_get hy1]))
          have d0 := At.l1 (hco r [.int .i64 (z : Int)] (by simp [intCells, natI_get hz1]))
          simp only [Nat.mul_one] at c0 d0
          rw [hl'] at a7
          rw [hr'] at a8
          have hl0 : (0 : Int) ≤ (l : Int) := by omega
          have hl1 : (l : Int) < (k : Int) := by omega
          have hr0 : (0 : Int) ≤ (r : Int) := by omega
          have hr1 : (r : Int) < (k : Int) := by omega
          have e1 : (n.kind == 1) = false := by rcases h45 with h | h <;> simp [h]
          have e2 : (n.kind == 2) = false := by rcases h45 with h | h <;> simp [h]
          have e3 : (n.kind == 3) = false := by rcases h45 with h | h <;> simp [h]
          rcases h45 with h4 | h5
          · have MX := hide (fun w' => rmixed_any false y z w' hy3 hz3)
            have HE : Hid (joinS 4 y z = x) := by show _ = _; rw [← h4]; exact E
            have HE2 : Hid ((if false = true then (5 : Int) else 4) = 4) := hide rfl
            rw [HE2.out, HE.out] at MX
            have e4 : (n.kind == 4) = true := by simp [h4]
            clear h4 hl' hr' hlk hrk hy1 hy2 hy3 hz1 hz2 hz3 hco E
            go_upto_region 15 with (fail)
            go_quiet ((go_at_call 61; exact Calls.quiet_of_same ((MX.out _).mono fun _ _ h => ⟨h.1, h.2.symm⟩)))
            go_wp2_with fail
            go_meet
            case rel => exact ⟨rfl, Step.of⟩
          · have MX := hide (fun w' => rmixed_any true y z w' hy3 hz3)
            have HE : Hid (joinS 5 y z = x) := by show _ = _; rw [← h5]; exact E
            have HE2 : Hid ((if true = true then (5 : Int) else 4) = 5) := hide rfl
            rw [HE2.out, HE.out] at MX
            have e4 : (n.kind == 4) = false := by simp [h5]
            have e5 : (n.kind == 5) = true := by simp [h5]
            clear h5 hl' hr' hlk hrk hy1 hy2 hy3 hz1 hz2 hz3 hco E
            go_upto_region 17 with (fail)
            go_quiet ((go_at_call 61; exact Calls.quiet_of_same ((MX.out _).mono fun _ _ h => ⟨h.1, h.2.symm⟩)))
            go_wp2_with fail
            go_meet
            case rel => exact ⟨rfl, Step.of⟩
      case rest =>
        obtain ⟨rfl, hsx⟩ := hcut
        clear a0 a1 a2 a3 a4 a5 a6 a7 a8 la
        have hz5 := hsx.size
        have HNew := hide (SlAt.one wc 1 [.int .i64 (x : Int)] 3)
        have HOw := hide ((HO.out.fut (w' := wc)).alloc (.cells #[.int .i64 (x : Int)] 3))
        go_wp2_with (at_builtin; go_loud (refine wpList_append_sl rfl (.tmp 74) (.tmp 76) 72 rfl eiInt (base := W.heap.size) (xs := intCells (natI (evalW leaf (ns.take k)))) rfl HOw.out (int_fit _) (ys := [[.int .i64 (x : Int)]]) rfl (by simp) HNew.out (int_fit [(x : Int)]) (by rw [intCells_len, HLN.out]; simp; omega) (by simp; omega) (N := k + 1) (by rw [intCells_len, HLN.out]; rfl) ?_; intro A5 c5 w5 hq1 hq2 hown5 hgr5 hbel5; have H5 := hide hown5; have HB5 := hide hbel5; clear hown5 hgr5 hbel5))
        go_roundw
        case rel =>
          refine ⟨k + 1, A5, c5, by omega, by go_num, rfl, ?_, ⟨?_⟩⟩
          · rw [HTX.out]
            have := H5.out
            simpa [intCells, natI] using this
          · exact (fut W (wc.alloc _)).trans HB5.out
        case measure => simp [intOf]; omega
    · obtain rfl : k = ns.length := by omega
      rw [List.take_length] at HLN
      have HS := HO.out
      rw [List.take_length] at HS
      have HO2 := hide HS
      clear HS
      by_cases h0 : ns.length = 0
      · have hn : ns = [] := List.length_eq_zero_iff.1 h0
        subst hn
        have HRR : Hid (R = true) := by show _ = _; rw [← HR.out]; simp [walkB, evalW, lastW]; decide
        obtain rfl := HRR.out
        go_wp2_with fail
        go_ret
        exact ⟨rfl, Step.of⟩
      · obtain ⟨m, hm⟩ : ∃ m, ns.length = m + 1 := ⟨ns.length - 1, by omega⟩
        have hlen : (evalW leaf ns).length = m + 1 := by rw [evalW_len, hm]
        obtain ⟨y, hy⟩ : ∃ y, (evalW leaf ns)[m]? = some y := ⟨_, List.getElem?_eq_getElem (by omega)⟩
        have hy8 := evalW_lt HLF.out ns y (List.mem_of_getElem? hy)
        obtain ⟨bo, oo, rfl, hbo, hco⟩ := (HO2.out.sl (int_fit _).len).elem (Fut.self _) (k := m) (by rw [intCells_len, natI_len]; omega)
        have c0 := At.l1 (hco m [.int .i64 (y : Int)] (by simp [intCells, natI_get hy]))
        simp only [Nat.mul_one] at c0
        have HRR : Hid (y.testBit 1 = R) := by show _ = _; rw [← HR.out, walkB, lastW_at hlen hy]
        have HASK := hide (yes_ask hy8)
        have hmn : ((ns.length : Int) == 0) = false := beq_eq_false_iff_ne.2 (by omega)
        have hwr : IntKind.i64.wrap ((ns.length : Int) - 1) = (m : Int) := by rw [IntKind.wrap_i64]; omega
        have hm0 : (0 : Int) ≤ (m : Int) := by omega
        have hm1 : (m : Int) < (ns.length : Int) := by omega
        clear hco hy hlen hm h0
        go_wp2_with fail
        go_ret
        exact ⟨ret_bool (by rw [← HRR.out, ← HASK.out]), Step.of⟩
end Go.Proofs.YtcgpfllkbflbhaaGreatDoor
