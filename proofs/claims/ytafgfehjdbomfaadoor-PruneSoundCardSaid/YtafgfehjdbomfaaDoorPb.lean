/-
  The program's May and Check of predicates.
-/
import Derived.Test.YtafgfehjdbomfaaDoorPa
import Derived.Test.YtafgfehjdbomfaaDoorPs
namespace Go.Proofs.YtafgfehjdbomfaaDoor
open Go.RowKit

/-- A predicate that is handed in. -/
structure PrIn (w : World) (ns : List Nod) (A : Option Addr) (cap : Nat) : Prop where
  hcap : ns.length ≤ cap
  hcapm : cap ≤ 9223372036854775807
  len : ns.length ≤ 1599289640400
  at_ : SlAt w w.heap.size 9 A (ns.map Nod.cells)
  strs : ∀ n ∈ ns, n.col.size ≤ 9223372036854775807 ∧ n.v.s.size ≤ 9223372036854775807
theorem PrIn.fut {w w' : World} {ns : List Nod} {A : Option Addr} {cap : Nat} (h : PrIn w ns A cap) [k : Fut w w'] : PrIn w' ns A cap := ⟨h.hcap, h.hcapm, h.len, h.at_.fut, h.strs⟩
/-- Node k, in whatever later world. -/
theorem PrIn.node {w w' : World} {ns : List Nod} {A : Option Addr} {cap : Nat} (h : PrIn w ns A cap) (hf : Fut w w') {k : Nat} (hk : k < ns.length) :
    ∃ b off, A = some ⟨b, off, none⟩ ∧ b < w.heap.size ∧ ∃ n, ns[k]? = some n ∧ At w' b (off + k * 9) n.cells := by
  obtain ⟨b, off, e, hb, hc⟩ := h.at_.elem hf (k := k) (by simpa using hk)
  exact ⟨b, off, e, hb, ns[k], List.getElem?_eq_getElem hk, hc k _ (by simp [hk])⟩

theorem ahead_any (k : Int) (m g : Nat) (w : World) (h : w.cell? ⟨g, 0, none⟩ = some (.int .i64 m)) (_hg : g < w.heap.size) :
    Calls Tryd.prog 109 #[.int .i64 k, .pointer (some ⟨g, 0, none⟩)] w fun e w' => e = .returned (.bool (ahead k m)) ∧ w = w' := by
  by_cases h0 : 0 ≤ k
  · by_cases h1 : k < (m : Int)
    · have HX : Hid (ahead k m = true) := by show _ = _; simp [ahead, h0, h1]
      go_enter Tryd.func109, Tryd.ntmps109
      go_wp2
      go_ret
      exact ⟨ret_bool HX.out.symm, rfl⟩
    · have HX : Hid (ahead k m = false) := by show _ = _; simp [ahead, h0, h1]
      have h2 : (m : Int) ≤ k := by omega
      clear h1
      go_enter Tryd.func109, Tryd.ntmps109
      go_wp2
      go_ret
      exact ⟨ret_bool (by rw [HX.out, decide_eq_false_iff_not]; omega), rfl⟩
  · have HX : Hid (ahead k m = false) := by show _ = _; simp [ahead, h0]
    have h2 : k < 0 := by omega
    clear h0
    go_enter Tryd.func109, Tryd.ntmps109
    go_wp2
    go_ret
    exact ⟨ret_bool HX.out.symm, rfl⟩

set_option maxHeartbeats 4000000 in
theorem pmayN_any {w0 : World} (b o : Nat) (n : Nod) (m : Nat) (w : World) (hn : At w0 b o n.cells) (hb : b < w0.heap.size) [hf : Fut w0 w] :
    Calls Tryd.prog 100 #[.pointer (some ⟨b, o, none⟩), .int .i64 m] w fun e w' => e = .returned (.bool (nodB n m)) ∧ Step w w' := by
  have hz := hf.below.size
  have hlt : b < w.heap.size := by omega
  have hn' := hn.below (fut w0 w) hb
  obtain ⟨n0, n1, n2, n3, n4, n5, n6, n7, n8⟩ := At.l9 hn'
  obtain ⟨R, hR⟩ : ∃ R, nodB n m = R := ⟨_, rfl⟩
  have HR := hide hR
  rw [hR]
  clear hR hn hn'
  have AH := hide (fun k => ahead_any k m w.heap.size (w.alloc (.cells #[.int .i64 m] 3)) (At.z1 (Blk.new w [.int .i64 m] _).at0) (by simp))
  by_cases k0 : n.kind = 0
  · rw [k0] at n0
    have HX := hide k0; clear k0
    go_enter Tryd.func100, Tryd.ntmps100
    go_wp2_with (first | (go_at_call 102; refine (vecKind_any _ _).mono ?_; rintro e w' ⟨rfl, rfl⟩; (try rw [K3.out])) | (go_at_call 109; refine (AH.out _).mono ?_; rintro e w' ⟨rfl, rfl⟩; (first | rw [K1.out] | rw [K2.out] | skip)))
    go_ret
    exact ⟨ret_bool (by rw [← HR.out]; simp [nodB, HX.out]), Step.of⟩
  have e0 : (n.kind == 0) = false := by simpa using k0
  by_cases k2 : n.kind = 2
  · rw [k2] at n0
    have HX := hide k2; clear k2 k0 e0
    go_enter Tryd.func100, Tryd.ntmps100
    go_wp2_with (first | (go_at_call 102; refine (vecKind_any _ _).mono ?_; rintro e w' ⟨rfl, rfl⟩; (try rw [K3.out])) | (go_at_call 109; refine (AH.out _).mono ?_; rintro e w' ⟨rfl, rfl⟩; (first | rw [K1.out] | rw [K2.out] | skip)))
    go_ret
    exact ⟨ret_bool (by rw [← HR.out]; simp [nodB, HX.out]), Step.of⟩
  have e2 : (n.kind == 2) = false := by simpa using k2
  by_cases k1 : n.kind = 1
  · rw [k1] at n0
    have HX : Hid (nodB n m = (decide (0 ≤ n.cmp) && decide (n.cmp ≤ 5) && kindB n.v.kind && (n.v.kind != 3 || decide (n.v.s.size ≤ 64)))) := by show _ = _; simp [nodB, k1]
    clear k0 k1 k2 e0 e2
    by_cases c1 : 0 ≤ n.cmp
    · by_cases c2 : n.cmp ≤ 5
      · cases c3 : kindB n.v.kind with
        | false =>
          have K3 := hide c3
          clear c3
          go_enter Tryd.func100, Tryd.ntmps100
          go_wp2_with (first | (go_at_call 102; refine (vecKind_any _ _).mono ?_; rintro e w' ⟨rfl, rfl⟩; (try rw [K3.out])) | (go_at_call 109; refine (AH.out _).mono ?_; rintro e w' ⟨rfl, rfl⟩; (first | rw [K1.out] | rw [K2.out] | skip)))
          go_ret
          exact ⟨ret_bool (by rw [← HR.out]; rw [HX.out, K3.out]; simp), Step.of⟩
        | true =>
          have K3 := hide c3
          clear c3
          by_cases c4 : n.v.kind = 3
          · have c4' : (n.v.kind != 3) = false := by simpa using c4
            have C4 := hide c4'
            clear c4
            by_cases c5 : n.v.s.size ≤ 64
            · have c5' : (n.v.s.size : Int) ≤ 64 := by omega
              have C5 := hide c5
              go_enter Tryd.func100, Tryd.ntmps100
              go_wp2_with (first | (go_at_call 102; refine (vecKind_any _ _).mono ?_; rintro e w' ⟨rfl, rfl⟩; (try rw [K3.out])) | (go_at_call 109; refine (AH.out _).mono ?_; rintro e w' ⟨rfl, rfl⟩; (first | rw [K1.out] | rw [K2.out] | skip)))
              go_ret
              exact ⟨ret_bool (by rw [← HR.out]; rw [HX.out, K3.out, C4.out]; simp [c1, c2, C5.out]), Step.of⟩
            · have c5' : (64 : Int) < (n.v.s.size : Int) := by omega
              have C5 : Hid (decide (n.v.s.size ≤ 64) = false) := by show _ = _; simp; omega
              clear c5
              go_enter Tryd.func100, Tryd.ntmps100
              go_wp2_with (first | (go_at_call 102; refine (vecKind_any _ _).mono ?_; rintro e w' ⟨rfl, rfl⟩; (try rw [K3.out])) | (go_at_call 109; refine (AH.out _).mono ?_; rintro e w' ⟨rfl, rfl⟩; (first | rw [K1.out] | rw [K2.out] | skip)))
              go_ret
              exact ⟨ret_bool (by rw [← HR.out]; rw [HX.out, K3.out, C4.out, C5.out]; first | (simp; done) | (simp; omega)), Step.of⟩
          · have c4' : (n.v.kind != 3) = true := by simpa using c4
            have C4 := hide c4'
            clear c4
            go_enter Tryd.func100, Tryd.ntmps100
            go_wp2_with (first | (go_at_call 102; refine (vecKind_any _ _).mono ?_; rintro e w' ⟨rfl, rfl⟩; (try rw [K3.out])) | (go_at_call 109; refine (AH.out _).mono ?_; rintro e w' ⟨rfl, rfl⟩; (first | rw [K1.out] | rw [K2.out] | skip)))
            go_ret
            exact ⟨ret_bool (by rw [← HR.out]; rw [HX.out, K3.out, C4.out]; simp [c1, c2]), Step.of⟩
      · have c2' : 5 < n.cmp := by omega
        clear c2
        go_enter Tryd.func100, Tryd.ntmps100
        go_wp2_with (first | (go_at_call 102; refine (vecKind_any _ _).mono ?_; rintro e w' ⟨rfl, rfl⟩; (try rw [K3.out])) | (go_at_call 109; refine (AH.out _).mono ?_; rintro e w' ⟨rfl, rfl⟩; (first | rw [K1.out] | rw [K2.out] | skip)))
        go_ret
        exact ⟨ret_bool (by rw [← HR.out]; rw [HX.out]; simp; omega), Step.of⟩
    · have c1' : n.cmp < 0 := by omega
      clear c1
      go_enter Tryd.func100, Tryd.ntmps100
      go_wp2_with (first | (go_at_call 102; refine (vecKind_any _ _).mono ?_; rintro e w' ⟨rfl, rfl⟩; (try rw [K3.out])) | (go_at_call 109; refine (AH.out _).mono ?_; rintro e w' ⟨rfl, rfl⟩; (first | rw [K1.out] | rw [K2.out] | skip)))
      go_ret
      exact ⟨ret_bool (by rw [← HR.out]; rw [HX.out]; simp; omega), Step.of⟩
  have e1 : (n.kind == 1) = false := by simpa using k1
  by_cases k3 : n.kind = 3
  · rw [k3] at n0
    have HX : Hid (nodB n m = ahead n.l m) := by show _ = _; simp [nodB, k3]
    clear k0 k1 k2 k3 e0 e1 e2
    go_enter Tryd.func100, Tryd.ntmps100
    go_wp2_with (first | (go_at_call 102; refine (vecKind_any _ _).mono ?_; rintro e w' ⟨rfl, rfl⟩; (try rw [K3.out])) | (go_at_call 109; refine (AH.out _).mono ?_; rintro e w' ⟨rfl, rfl⟩; (first | rw [K1.out] | rw [K2.out] | skip)))
    go_ret
    exact ⟨ret_bool (by rw [← HR.out]; exact HX.out.symm), Step.of⟩
  have e3 : (n.kind == 3) = false := by simpa using k3
  by_cases k4 : n.kind = 4
  · rw [k4] at n0
    have HX : Hid (nodB n m = (ahead n.l m && ahead n.r m)) := by show _ = _; simp [nodB, k4]
    clear k0 k1 k2 k3 e0 e1 e2 e3 k4
    cases c1 : ahead n.l m with
    | false =>
      have K1 := hide c1
      clear c1
      go_enter Tryd.func100, Tryd.ntmps100
      go_wp2_with (first | (go_at_call 102; refine (vecKind_any _ _).mono ?_; rintro e w' ⟨rfl, rfl⟩; (try rw [K3.out])) | (go_at_call 109; refine (AH.out _).mono ?_; rintro e w' ⟨rfl, rfl⟩; (first | rw [K1.out] | rw [K2.out] | skip)))
      go_ret
      exact ⟨ret_bool (by rw [← HR.out]; rw [HX.out, K1.out]; rfl), Step.of⟩
    | true =>
      have K1 := hide c1
      clear c1
      go_enter Tryd.func100, Tryd.ntmps100
      go_wp2_with (first | (go_at_call 102; refine (vecKind_any _ _).mono ?_; rintro e w' ⟨rfl, rfl⟩; (try rw [K3.out])) | (go_at_call 109; refine (AH.out _).mono ?_; rintro e w' ⟨rfl, rfl⟩; (first | rw [K1.out] | rw [K2.out] | skip)))
      go_ret
      exact ⟨ret_bool (by rw [← HR.out]; rw [HX.out, K1.out]; simp), Step.of⟩
  have e4 : (n.kind == 4) = false := by simpa using k4
  by_cases k5 : n.kind = 5
  · rw [k5] at n0
    have HX : Hid (nodB n m = (ahead n.l m && ahead n.r m)) := by show _ = _; simp [nodB, k5]
    clear k0 k1 k2 k3 e0 e1 e2 e3 k4 e4 k5
    cases c1 : ahead n.l m with
    | false =>
      have K1 := hide c1
      clear c1
      go_enter Tryd.func100, Tryd.ntmps100
      go_wp2_with (first | (go_at_call 102; refine (vecKind_any _ _).mono ?_; rintro e w' ⟨rfl, rfl⟩; (try rw [K3.out])) | (go_at_call 109; refine (AH.out _).mono ?_; rintro e w' ⟨rfl, rfl⟩; (first | rw [K1.out] | rw [K2.out] | skip)))
      go_ret
      exact ⟨ret_bool (by rw [← HR.out]; rw [HX.out, K1.out]; rfl), Step.of⟩
    | true =>
      have K1 := hide c1
      clear c1
      go_enter Tryd.func100, Tryd.ntmps100
      go_wp2_with (first | (go_at_call 102; refine (vecKind_any _ _).mono ?_; rintro e w' ⟨rfl, rfl⟩; (try rw [K3.out])) | (go_at_call 109; refine (AH.out _).mono ?_; rintro e w' ⟨rfl, rfl⟩; (first | rw [K1.out] | rw [K2.out] | skip)))
      go_ret
      exact ⟨ret_bool (by rw [← HR.out]; rw [HX.out, K1.out]; simp), Step.of⟩
  have e5 : (n.kind == 5) = false := by simpa using k5
  have HX : Hid (nodB n m = false) := by show _ = _; simp [nodB, k0, k1, k2, k3, k4, k5]
  clear k0 k1 k2 k3 k4 k5
  go_enter Tryd.func100, Tryd.ntmps100
  go_wp2_with (first | (go_at_call 102; refine (vecKind_any _ _).mono ?_; rintro e w' ⟨rfl, rfl⟩; (try rw [K3.out])) | (go_at_call 109; refine (AH.out _).mono ?_; rintro e w' ⟨rfl, rfl⟩; (first | rw [K1.out] | rw [K2.out] | skip)))
  go_ret
  exact ⟨ret_bool (by rw [← HR.out]; exact HX.out.symm), Step.of⟩

set_option maxHeartbeats 1000000 in
theorem ppred_any {w0 : World} (ns : List Nod) (A : Option Addr) (cap : Nat) (w : World) (h : PrIn w0 ns A cap) [hf : Fut w0 w] :
    Calls Tryd.prog 69 #[.agg #[.slice A ns.length cap]] w fun e w' => e = .returned (.bool (predB ns)) ∧ Step w w' := by
  have hl := h.len
  have hz := hf.below.size
  by_cases h24 : ns.length ≤ 24
  · have HP : Hid (predB ns = nodsUpto ns ns.length) := by show _ = _; simp [predB, h24]
    have HB := hide (Blk.new w [.slice A ns.length cap] 24)
    rw [HP.out]
    go_enter Tryd.func69, Tryd.ntmps69
    go_wp2
    go_loopw [3, 11] (fun _ i wr => ∃ k : Nat, k ≤ ns.length ∧ i = .int .i64 k ∧ nodsUpto ns k = true ∧ Step (w.alloc (.cells #[.slice A ns.length cap] 24)) wr) (fun _ i _ => ns.length - (intOf i).toNat)
    case atStart => exact ⟨0, Nat.zero_le _, rfl, rfl, Step.of⟩
    case round =>
      obtain ⟨k, hk, rfl, hok, hst⟩ := hrel
      have HO := hide hok; clear hok
      have hs1 := hst.size
      simp only [hsz] at hs1
      have hs2 : w.heap.size < wr.heap.size := by omega
      have r0 := At.z1 (HB.out.fut (w' := wr)).at0
      by_cases hlt : k < ns.length
      · obtain ⟨b, off, rfl, hb, n, hn, hat⟩ := h.node (w' := wr) inferInstance hlt
        have HN := hide hn; clear hn
        have hm := fun w' [Fut wr w'] => pmayN_any b (off + k * 9) n k w' hat (by omega)
        cases hnb : nodB n k with
        | true =>
          rw [hnb] at hm
          have HM := hide hm; have HNB := hide hnb
          clear hm hnb hat
          go_wp2_with fail
          refine (HM.out _).mono ?_
          rintro e w2 ⟨rfl, hs⟩
          go_wp2_with fail
          go_roundw
          case rel => exact ⟨k + 1, by omega, by go_num, by rw [nodsUpto, HO.out, HN.out]; simp [HNB.out], Step.of⟩
          case measure => simp [intOf]; omega
        | false =>
          rw [hnb] at hm
          have HM := hide hm; have HNB := hide hnb
          clear hm hnb hat
          go_wp2_with fail
          refine (HM.out _).mono ?_
          rintro e w2 ⟨rfl, hs⟩
          go_wp2_with fail
          go_ret
          exact ⟨ret_bool (nodsUpto_bad HN.out HNB.out).symm, Step.of⟩
      · obtain rfl : k = ns.length := by omega
        go_wp2_with fail
        go_ret
        exact ⟨ret_bool HO.out.symm, Step.of⟩
  · have h25 : (24 : Int) < (ns.length : Int) := by omega
    have HP : Hid (predB ns = false) := by show _ = _; simp [predB]; omega
    clear h24
    rw [HP.out]
    go_enter Tryd.func69, Tryd.ntmps69
    go_wp2
    go_ret
    exact ⟨rfl, Step.of⟩
end Go.Proofs.YtafgfehjdbomfaaDoor
