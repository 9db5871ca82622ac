/-
  The document's own answer: PredMay, Check.
-/
import Derived.Test.YtafgfehjdbomfaaDoorQa
import Derived.Test.YtafgfehjdbomfaaDoorPk
import Derived.Test.YtafgfehjdbomfaaDoorRb
namespace Go.Proofs.YtafgfehjdbomfaaDoor
open Go.RowKit

theorem ahead_cases (x : Int) (k : Nat) : (x < 0 ∧ decide (0 ≤ x) = false ∧ ahead x k = false) ∨ (0 ≤ x ∧ (k : Int) ≤ x ∧ decide (x < (k : Int)) = false ∧ ahead x k = false) ∨ (0 ≤ x ∧ x < (k : Int) ∧ ahead x k = true) := by
  unfold ahead
  by_cases h : 0 ≤ x
  · by_cases g : x < (k : Int)
    · exact .inr (.inr ⟨h, g, by simp [h, g]⟩)
    · exact .inr (.inl ⟨h, by omega, by simpa using g, by simp [g]⟩)
  · exact .inl ⟨by omega, by simpa using h, by simp [h]⟩
set_option maxRecDepth 100000 in
set_option maxHeartbeats 8000000 in
theorem rpred_any {w0 : World} (ns : List Nod) (A : Option Addr) (cap : Nat) (w : World) (h : PrIn w0 ns A cap) [hf : Fut w0 w] :
    Calls Tryd.prog 73 #[.agg #[.slice A ns.length cap]] w fun e w' => e = .returned (.bool (predB ns)) ∧ Step w w' := by
  have hl := h.len
  have hz := hf.below.size
  by_cases h24 : ns.length ≤ 24
  · have HP : Hid (predB ns = nodsUpto ns ns.length) := by show _ = _; simp [predB, h24]
    have HB := hide (Blk.new w [.slice A ns.length cap] 24)
    rw [HP.out]
    go_enter Tryd.func73, Tryd.ntmps73
    go_wp2
    go_loopw [3, 4, 5, 6] (fun i _ _ _ wr => ∃ k : Nat, k ≤ ns.length ∧ i = .int .i64 k ∧ nodsUpto ns k = true ∧ Step (w.alloc (.cells #[.slice A ns.length cap] 24)) wr) (fun i _ _ _ _ => ns.length - (intOf i).toNat)
    case atStart => exact ⟨0, Nat.zero_le _, rfl, rfl, Step.of⟩
    case round =>
      obtain ⟨k, hk, rfl, hok, hst⟩ := hrel
      have HO := hide hok; clear hok
      have hs1 := hst.size
      simp only [hsz] at hs1
      have hs2 : w.heap.size < wr.heap.size := by omega
      have r0 := At.z1 (HB.out.fut (w' := wr)).at0
      by_cases hlt : k < ns.length
      · obtain ⟨b, off, rfl, hb, n, hn, hat⟩ := h.node (w' := wr) inferInstance hlt
        have hlb : b < wr.heap.size := by omega
        have HN := hide hn; clear hn
        obtain ⟨n0, n1, n2, n3, n4, n5, n6, n7, n8⟩ := At.l9 hat
        clear hat
        have hk0 : (0 : Int) ≤ (k : Int) := by omega
        have HX := hide (Blk.new wr [.int .i64 n.kind, .string n.col, .int .i64 n.cmp, .int .i64 n.v.kind, .int .i64 n.v.i, .bool n.v.b, .string n.v.s, .int .i64 n.l, .int .i64 n.r] 59)
        obtain ⟨W1, hW1⟩ : ∃ X, X = wr.alloc (.cells #[.int .i64 n.kind, .string n.col, .int .i64 n.cmp, .int .i64 n.v.kind, .int .i64 n.v.i, .bool n.v.b, .string n.v.s, .int .i64 n.l, .int .i64 n.r] 59) := ⟨_, rfl⟩
        have S1 : Step wr W1 := by rw [hW1]; exact Step.of
        have HX1 : Hid (Blk W1 wr.heap.size 59 [.int .i64 n.kind, .string n.col, .int .i64 n.cmp, .int .i64 n.v.kind, .int .i64 n.v.i, .bool n.v.b, .string n.v.s, .int .i64 n.l, .int .i64 n.r]) := by rw [hW1]; exact HX.out
        have HW1 := hide hW1
        clear hW1 HX
        go_upto_region 7 with (fail)
        rw [← HW1.out]
        clear n0 n1 n2 n3 n4 n5 n6 n7 n8 r0
        go_cut [5, 6] from 23 to 40 (fun x y wx => x = .bool (ahead n.l k) ∧ y = .bool (ahead n.r k) ∧ Step W1 wx)
        case first =>
          obtain ⟨n0, n1, n2, n3, n4, n5, n6, n7, n8⟩ := At.z9 HX1.out.at0
          have ln := HX1.out.lt
          rcases ahead_cases n.l k with ⟨a1, a4, a2⟩ | ⟨a1, a3, a4, a2⟩ | ⟨a1, a3, a2⟩ <;> rcases ahead_cases n.r k with ⟨c1, c4, c2⟩ | ⟨c1, c3, c4, c2⟩ | ⟨c1, c3, c2⟩
          all_goals
            have HA := hide a2; have HC := hide c2
            clear a2 c2
            go_quiet (fail)
            go_wp2_with fail
            go_meet
            case rel => exact ⟨by rw [HA.out], by rw [HC.out], Step.of⟩
        case rest =>
          obtain ⟨rfl, rfl, hs5⟩ := hcut
          obtain ⟨w5, rfl⟩ : ∃ x : World, x = wc := ⟨_, rfl⟩
          obtain ⟨n0, n1, n2, n3, n4, n5, n6, n7, n8⟩ := At.z9 (HX1.out.fut (w' := w5)).at0
          have ln := (HX1.out.fut (w' := w5)).lt
          obtain ⟨L, hL⟩ : ∃ L, ahead n.l k = L := ⟨_, rfl⟩
          obtain ⟨M, hM⟩ : ∃ M, ahead n.r k = M := ⟨_, rfl⟩
          have HL := hide hL; have HM := hide hM
          rw [hL, hM]
          clear hL hM
          by_cases k0 : n.kind = 0
          · have e0 : (n.kind == 0) = true := by simpa using k0
            have HX := hide k0
            clear k0
            go_wp2_with fail
            go_roundw
            case rel => exact ⟨k + 1, by omega, by go_num, by rw [nodsUpto, HO.out, HN.out]; simp only [Bool.true_and]; simp [nodB, HX.out], Step.of⟩
            case measure => simp [intOf]; omega
          have e0 : (n.kind == 0) = false := by simpa using k0
          by_cases k2 : n.kind = 2
          · have e2 : (n.kind == 2) = true := by simpa using k2
            have HX := hide k2
            clear k2 k0
            go_wp2_with fail
            go_roundw
            case rel => exact ⟨k + 1, by omega, by go_num, by rw [nodsUpto, HO.out, HN.out]; simp only [Bool.true_and]; simp [nodB, HX.out], Step.of⟩
            case measure => simp [intOf]; omega
          have e2 : (n.kind == 2) = false := by simpa using k2
          by_cases k1 : n.kind = 1
          · have e1 : (n.kind == 1) = true := by simpa using k1
            have HX : Hid (nodB n k = (decide (0 ≤ n.cmp) && decide (n.cmp ≤ 5) && kindB n.v.kind && (n.v.kind != 3 || decide (n.v.s.size ≤ 64)))) := by show _ = _; simp [nodB, k1]
            clear k0 k1 k2
            by_cases c1 : 0 ≤ n.cmp
            · by_cases c2 : n.cmp ≤ 5
              · by_cases c3 : 1 ≤ n.v.kind
                · by_cases c4 : n.v.kind ≤ 3
                  · by_cases c5 : n.v.kind = 3
                    · have c5' : (n.v.kind == 3) = true := by simpa using c5
                      by_cases c6 : n.v.s.size ≤ 64
                      · have c6' : (n.v.s.size : Int) ≤ 64 := by omega
                        have HE : Hid (nodB n k = true) := by show _ = _; rw [HX.out]; simp [c1, c2, kindB, c5, c6]
                        clear c5 c6
                        go_wp2_with fail
                        go_roundw
                        case rel => exact ⟨k + 1, by omega, by go_num, by rw [nodsUpto, HO.out, HN.out]; simp only [Bool.true_and]; exact HE.out, Step.of⟩
                        case measure => simp [intOf]; omega
                      · have c6' : (64 : Int) < (n.v.s.size : Int) := by omega
                        have HE : Hid (nodB n k = false) := by show _ = _; rw [HX.out]; simp [c1, c2, kindB, c5, c6]
                        clear c5 c6
                        go_wp2_with fail
                        go_ret
                        exact ⟨ret_bool (nodsUpto_bad HN.out (HE.out)).symm, Step.of⟩
                    · have c5' : (n.v.kind == 3) = false := by simpa using c5
                      have HE : Hid (nodB n k = true) := by show _ = _; rw [HX.out]; simp [c1, c2, kindB, c3, c4, c5]
                      clear c5
                      go_wp2_with fail
                      go_roundw
                      case rel => exact ⟨k + 1, by omega, by go_num, by rw [nodsUpto, HO.out, HN.out]; simp only [Bool.true_and]; exact HE.out, Step.of⟩
                      case measure => simp [intOf]; omega
                  · have c4' : 3 < n.v.kind := by omega
                    have HE : Hid (nodB n k = false) := by show _ = _; rw [HX.out]; simp [kindB]; omega
                    clear c4
                    go_wp2_with fail
                    go_ret
                    exact ⟨ret_bool (nodsUpto_bad HN.out (HE.out)).symm, Step.of⟩
                · have c3' : n.v.kind < 1 := by omega
                  have HE : Hid (nodB n k = false) := by show _ = _; rw [HX.out]; simp [kindB]; omega
                  clear c3
                  go_wp2_with fail
                  go_ret
                  exact ⟨ret_bool (nodsUpto_bad HN.out (HE.out)).symm, Step.of⟩
              · have c2' : 5 < n.cmp := by omega
                have HE : Hid (nodB n k = false) := by show _ = _; rw [HX.out]; simp; omega
                clear c2
                go_wp2_with fail
                go_ret
                exact ⟨ret_bool (nodsUpto_bad HN.out (HE.out)).symm, Step.of⟩
            · have c1' : n.cmp < 0 := by omega
              have HE : Hid (nodB n k = false) := by show _ = _; rw [HX.out]; simp; omega
              clear c1
              go_wp2_with fail
              go_ret
              exact ⟨ret_bool (nodsUpto_bad HN.out (HE.out)).symm, Step.of⟩
          have e1 : (n.kind == 1) = false := by simpa using k1
          by_cases k3 : n.kind = 3
          · have e3 : (n.kind == 3) = true := by simpa using k3
            have HX : Hid (nodB n k = L) := by show _ = _; rw [← HL.out]; simp [nodB, k3]
            clear k0 k1 k2 k3
            cases L
            · go_wp2_with fail
              go_ret
              exact ⟨ret_bool (nodsUpto_bad HN.out (HX.out)).symm, Step.of⟩
            · go_wp2_with fail
              go_roundw
              case rel => exact ⟨k + 1, by omega, by go_num, by rw [nodsUpto, HO.out, HN.out]; simp only [Bool.true_and]; exact HX.out, Step.of⟩
              case measure => simp [intOf]; omega
          have e3 : (n.kind == 3) = false := by simpa using k3
          by_cases k4 : n.kind = 4
          · have e4 : (n.kind == 4) = true := by simpa using k4
            have HX : Hid (nodB n k = (L && M)) := by show _ = _; rw [← HL.out, ← HM.out]; simp [nodB, k4]
            clear k0 k1 k2 k3 k4
            cases L
            · go_wp2_with fail
              go_ret
              exact ⟨ret_bool (nodsUpto_bad HN.out (HX.out)).symm, Step.of⟩
            · cases M
              · go_wp2_with fail
                go_ret
                exact ⟨ret_bool (nodsUpto_bad HN.out (HX.out)).symm, Step.of⟩
              · go_wp2_with fail
                go_roundw
                case rel => exact ⟨k + 1, by omega, by go_num, by rw [nodsUpto, HO.out, HN.out]; simp only [Bool.true_and]; exact HX.out, Step.of⟩
                case measure => simp [intOf]; omega
          have e4 : (n.kind == 4) = false := by simpa using k4
          by_cases k5 : n.kind = 5
          · have e5 : (n.kind == 5) = true := by simpa using k5
            have HX : Hid (nodB n k = (L && M)) := by show _ = _; rw [← HL.out, ← HM.out]; simp [nodB, k5]
            clear k0 k1 k2 k3 k4 k5
            cases L
            · go_wp2_with fail
              go_ret
              exact ⟨ret_bool (nodsUpto_bad HN.out (HX.out)).symm, Step.of⟩
            · cases M
              · go_wp2_with fail
                go_ret
                exact ⟨ret_bool (nodsUpto_bad HN.out (HX.out)).symm, Step.of⟩
              · go_wp2_with fail
                go_roundw
                case rel => exact ⟨k + 1, by omega, by go_num, by rw [nodsUpto, HO.out, HN.out]; simp only [Bool.true_and]; exact HX.out, Step.of⟩
                case measure => simp [intOf]; omega
          have e5 : (n.kind == 5) = false := by simpa using k5
          have HX : Hid (nodB n k = false) := by show _ = _; simp [nodB, k0, k1, k2, k3, k4, k5]
          clear k0 k1 k2 k3 k4 k5
          go_wp2_with fail
          go_ret
          exact ⟨ret_bool (nodsUpto_bad HN.out (HX.out)).symm, Step.of⟩
      · obtain rfl : k = ns.length := by omega
        go_wp2_with fail
        go_ret
        exact ⟨ret_bool HO.out.symm, Step.of⟩
  · have h25 : (24 : Int) < (ns.length : Int) := by omega
    have HP : Hid (predB ns = false) := by show _ = _; simp [predB]; omega
    clear h24
    rw [HP.out]
    go_enter Tryd.func73, Tryd.ntmps73
    go_wp2
    go_ret
    exact ⟨rfl, Step.of⟩
set_option maxRecDepth 100000 in
set_option maxHeartbeats 8000000 in
theorem rcheck_any {w0 w1 : World} (ns : List Nod) (A : Option Addr) (cap : Nat) (s : Sch) (As : Option Addr) (cs : Nat) (w : World) (hp : PrIn w0 ns A cap) (hs : SchIn w1 s As cs) [f0 : Fut w0 w] [f1 : Fut w1 w] :
    Calls Tryd.prog 37 #[.agg #[.slice A ns.length cap], s.val As cs] w fun e w' => e = .returned (.int .i64 (checkE ns s)) ∧ Step w w' := by
  have hl := hp.len
  have hls := hs.len
  have z0 := f0.below.size; have z1 := f1.below.size
  obtain ⟨R, hR⟩ : ∃ R, checkE ns s = R := ⟨_, rfl⟩
  have HR := hide hR
  rw [hR]
  clear hR
  unfold Sch.val
  have HPB := hide ((Blk.new w [.slice A ns.length cap] 24).alloc (.cells #[.int .i64 s.id, .slice As s.cols.length cs, .int .i64 s.next] 27))
  have HSB := hide (Blk.new_at (w := w.alloc (.cells #[.slice A ns.length cap] 24)) (b := w.heap.size + 1) (by simp) [.int .i64 s.id, .slice As s.cols.length cs, .int .i64 s.next] 27)
  have pm := fun w' [Fut w0 w'] => rpred_any ns A cap w' hp
  have sm := fun w' [Fut w1 w'] => rmay_any s As cs w' hs
  unfold Sch.val at sm
  cases hpb : predB ns with
  | false =>
    have HX : Hid (checkE ns s = 1500) := by show _ = _; simp [checkE, hpb]
    rw [hpb] at pm
    have PM := hide pm
    clear pm sm hpb
    go_enter Tryd.func37, Tryd.ntmps37
    go_wp2_with fail
    refine (PM.out _).mono ?_
    rintro e w2 ⟨rfl, hs2⟩
    go_wp2_with fail
    go_ret
    exact ⟨ret_int (by rw [← HR.out, HX.out]), Step.of⟩
  | true =>
    rw [hpb] at pm
    have PM := hide pm; have HPT := hide hpb
    clear pm hpb
    cases hm : mayB s with
    | false =>
      have HX : Hid (checkE ns s = 1500) := by show _ = _; simp [checkE, hm]
      rw [hm] at sm
      have SM := hide sm
      clear sm hm
      go_enter Tryd.func37, Tryd.ntmps37
      go_wp2_with fail
      refine (PM.out _).mono ?_
      rintro e w2 ⟨rfl, hs2⟩
      obtain ⟨q0, q1, q2⟩ := At.z3 (HSB.out.fut (w' := w2)).at0
      have lq := (HSB.out.fut (w' := w2)).lt
      go_wp2_with fail
      refine (SM.out _).mono ?_
      rintro e w3 ⟨rfl, hs3⟩
      clear q0 q1 q2 lq
      go_wp2_with fail
      go_ret
      exact ⟨ret_int (by rw [← HR.out, HX.out]), Step.of⟩
    | true =>
      have HX : Hid (checkE ns s = firstE s ns) := by show _ = _; rw [checkE, if_pos ⟨HPT.out, hm⟩]
      rw [hm] at sm
      have SM := hide sm
      clear sm hm
      go_enter Tryd.func37, Tryd.ntmps37
      go_wp2_with fail
      refine (PM.out _).mono ?_
      rintro e w2 ⟨rfl, hs2⟩
      obtain ⟨q0, q1, q2⟩ := At.z3 (HSB.out.fut (w' := w2)).at0
      have lq := (HSB.out.fut (w' := w2)).lt
      go_wp2_with fail
      refine (SM.out _).mono ?_
      rintro e w3 ⟨rfl, hs3⟩
      clear q0 q1 q2 lq
      have p0 := At.z1 (HPB.out.fut (w' := w3)).at0
      have lp := (HPB.out.fut (w' := w3)).lt
      have z3 := hs3.size; have z2 := hs2.size
      simp only [hsz] at z2
      clear PM SM
      go_wp2_with fail
      clear p0 lp
      go_loopw [5, 6, 7] (fun i _ _ wr => ∃ k : Nat, k ≤ ns.length ∧ i = .int .i64 k ∧ Hid (∀ i, i < k → ∀ m, ns[i]? = some m → nodE s m = 0) ∧ Step w3 wr) (fun i _ _ _ => ns.length - (intOf i).toNat)
      case atStart => exact ⟨0, Nat.zero_le _, rfl, hide (fun i hi => absurd hi (Nat.not_lt_zero _)), Step.of⟩
      case round =>
        obtain ⟨k, hk, rfl, HO, hst⟩ := hrel
        have hs1 := hst.size
        have p0 := At.z1 (HPB.out.fut (w' := wr)).at0
        have lp : w.heap.size < wr.heap.size := by omega
        by_cases hlt : k < ns.length
        · obtain ⟨b, off, rfl, hb, n, hn, hat⟩ := hp.node (w' := wr) inferInstance hlt
          have hlb : b < wr.heap.size := by omega
          have HN := hide hn; clear hn
          obtain ⟨n0, n1, n2, n3, n4, n5, n6, n7, n8⟩ := At.l9 hat
          clear hat
          obtain ⟨q0, q1, q2⟩ := At.z3 (HSB.out.fut (w' := wr)).at0
          have lq := (HSB.out.fut (w' := wr)).lt
          by_cases k12 : n.kind = 1 ∨ n.kind = 2
          · have fd := fun w' [Fut w1 w'] => rfind_any s As cs n.col w' hs
            unfold Sch.val at fd
            have FD := hide fd
            clear fd
            rcases idx_cases (named n.col) s.cols with hi | ⟨j, hi, hj⟩
            · have HE := hide (nodE_none (s := s) k12 (by omega))
              have fd := FD.out
              rw [hi] at fd
              have FD2 := hide fd
              clear FD fd hi
              rcases k12 with k1 | k1
              all_goals
                rw [k1] at n0
                clear k1
                go_wp2_with fail
                refine (FD2.out _).mono ?_
                rintro e w4 ⟨rfl, hs4⟩
                go_wp2_with fail
                go_ret
                exact ⟨ret_int (by rw [← HR.out, HX.out, firstE_hit s HN.out HO.out (by rw [HE.out]; decide), HE.out]), Step.of⟩
            · have fd := FD.out
              rw [hi] at fd
              have FD2 := hide fd
              have HI := hide hi
              clear FD fd hi
              rcases k12 with k1 | k1
              · have HE := hide (nodE_kind k1 HI.out hj)
                rw [k1] at n0
                clear k1
                have HNB := hide (Blk.new wr [.int .i64 1, .string n.col, .int .i64 n.cmp, .int .i64 n.v.kind, .int .i64 n.v.i, .bool n.v.b, .string n.v.s, .int .i64 n.l, .int .i64 n.r] 59)
                go_wp2_with fail
                refine (FD2.out _).mono ?_
                rintro e w4 ⟨rfl, hs4⟩
                clear q0 q1 q2 lq n0 n1 n2 n3 n4 n5 n6 n7 n8
                obtain ⟨q0, q1, q2⟩ := At.z3 (HSB.out.fut (w' := w4)).at0
                have lq := (HSB.out.fut (w' := w4)).lt
                obtain ⟨n0, n1, n2, n3, n4, n5, n6, n7, n8⟩ := At.z9 (HNB.out.fut (w' := w4)).at0
                have ln := (HNB.out.fut (w' := w4)).lt
                obtain ⟨bc, oc, rfl, hbc, hac⟩ := hs.col (w' := w4) inferInstance hj
                obtain ⟨c0, c1, c2⟩ := At.l3 hac
                have hlc : bc < w4.heap.size := by have := (fut w1 w4).size; omega
                have hj0 : (0 : Int) ≤ (j : Int) := by omega
                have hj1 : (j : Int) < (s.cols.length : Int) := by omega
                clear hac
                by_cases hkk : n.v.kind = s.cols[j].kind
                · have e1 : (n.v.kind != s.cols[j].kind) = false := by simpa using hkk
                  have HE2 : Hid (nodE s n = 0) := by show _ = _; rw [HE.out, if_pos hkk]
                  clear hkk
                  go_wp2_with fail
                  go_quiet (fail)
                  go_wp2_with fail
                  go_roundw
                  case rel => exact ⟨k + 1, by omega, by go_num, hide (ext_zero HO.out HN.out HE2.out), Step.of⟩
                  case measure => simp [intOf]; omega
                · have e1 : (n.v.kind != s.cols[j].kind) = true := by simpa using hkk
                  have HE2 : Hid (nodE s n = 1502) := by show _ = _; rw [HE.out, if_neg hkk]
                  clear hkk
                  go_wp2_with fail
                  go_quiet (fail)
                  go_wp2_with fail
                  go_ret
                  exact ⟨ret_int (by rw [← HR.out, HX.out, firstE_hit s HN.out HO.out (by rw [HE2.out]; decide), HE2.out]), Step.of⟩
              · have HE := hide (nodE_two (s := s) k1 (by rw [HI.out]; omega))
                rw [k1] at n0
                clear k1
                have HNB := hide (Blk.new wr [.int .i64 2, .string n.col, .int .i64 n.cmp, .int .i64 n.v.kind, .int .i64 n.v.i, .bool n.v.b, .string n.v.s, .int .i64 n.l, .int .i64 n.r] 59)
                go_wp2_with fail
                refine (FD2.out _).mono ?_
                rintro e w4 ⟨rfl, hs4⟩
                clear q0 q1 q2 lq n0 n1 n2 n3 n4 n5 n6 n7 n8
                obtain ⟨n0, n1, n2, n3, n4, n5, n6, n7, n8⟩ := At.z9 (HNB.out.fut (w' := w4)).at0
                have ln := (HNB.out.fut (w' := w4)).lt
                go_wp2_with fail
                go_quiet (fail)
                go_wp2_with fail
                go_roundw
                case rel => exact ⟨k + 1, by omega, by go_num, hide (ext_zero HO.out HN.out HE.out), Step.of⟩
                case measure => simp [intOf]; omega
          · have k1 : n.kind ≠ 1 := fun e => k12 (.inl e)
            have k2 : n.kind ≠ 2 := fun e => k12 (.inr e)
            have HE := hide (nodE_skip (s := s) k1 k2)
            have e1 : (n.kind != 1) = true := by simpa using k1
            have e2 : (n.kind != 2) = true := by simpa using k2
            clear k12 k1 k2
            go_wp2_with fail
            go_roundw
            case rel => exact ⟨k + 1, by omega, by go_num, hide (ext_zero HO.out HN.out HE.out), Step.of⟩
            case measure => simp [intOf]; omega
        · obtain rfl : k = ns.length := by omega
          go_wp2_with fail
          go_ret
          exact ⟨ret_int (by rw [← HR.out, HX.out, firstE_zero s HO.out]), Step.of⟩
end Go.Proofs.YtafgfehjdbomfaaDoor
