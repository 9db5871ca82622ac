/-
  The program's Check of a predicate by a schema.
-/
import Derived.Test.YtafgfehjdbomfaaDoorFd
import Derived.Test.YtafgfehjdbomfaaDoorPb
namespace Go.Proofs.YtafgfehjdbomfaaDoor
open Go.RowKit

/-- Column j, in whatever later world. -/
theorem SchIn.col {w w' : World} {s : Sch} {A : Option Addr} {cap : Nat} (h : SchIn w s A cap) (hf : Fut w w') {j : Nat} (hj : j < s.cols.length) :
    ∃ b off, A = some ⟨b, off, none⟩ ∧ b < w.heap.size ∧ At w' b (off + j * 3) s.cols[j].cells := by
  obtain ⟨b, off, e, hb, hc⟩ := h.at_.elem hf (k := j) (by simpa using hj)
  exact ⟨b, off, e, hb, hc j _ (by simp [hj])⟩
theorem nodE_skip {s : Sch} {n : Nod} (h1 : n.kind ≠ 1) (h2 : n.kind ≠ 2) : nodE s n = 0 := by rw [nodE, if_pos ⟨h1, h2⟩]
theorem nodE_none {s : Sch} {n : Nod} (h1 : n.kind = 1 ∨ n.kind = 2) (hi : idx (named n.col) s.cols < 0) : nodE s n = 1501 := by rw [nodE, if_neg (by omega), if_pos hi]
theorem nodE_two {s : Sch} {n : Nod} (h1 : n.kind = 2) (hi : ¬ idx (named n.col) s.cols < 0) : nodE s n = 0 := by rw [nodE, if_neg (by omega), if_neg hi, if_neg (by omega)]
theorem nodE_kind {s : Sch} {n : Nod} {j : Nat} (h1 : n.kind = 1) (hi : idx (named n.col) s.cols = (j : Int)) (hj : j < s.cols.length) : nodE s n = if n.v.kind = s.cols[j].kind then 0 else 1502 := by
  obtain ⟨e, _⟩ := idx_yes (p := named n.col) (l := s.cols) (by omega)
  have e2 : s.cols.findIdx (named n.col) = j := by omega
  rw [nodE, if_neg (by omega), if_neg (by omega), e2, List.getD_eq_getElem?_getD, List.getElem?_eq_getElem hj]
  simp only [Option.getD_some]
  by_cases h : n.v.kind = s.cols[j].kind
  · rw [if_neg (by simp [h]), if_pos h]
  · rw [if_pos ⟨h1, h⟩, if_neg h]
theorem ext_zero {s : Sch} {ns : List Nod} {k : Nat} {n : Nod} (h : ∀ i, i < k → ∀ m, ns[i]? = some m → nodE s m = 0) (hn : ns[k]? = some n) (h0 : nodE s n = 0) : ∀ i, i < k + 1 → ∀ m, ns[i]? = some m → nodE s m = 0 := by
  intro i hi m hm
  rcases Nat.lt_or_eq_of_le (Nat.le_of_lt_succ hi) with e | rfl
  · exact h i e m hm
  · rw [hn] at hm; injection hm with hm; subst hm; exact h0

set_option maxRecDepth 100000 in
set_option maxHeartbeats 8000000 in
theorem pcheck_any {w0 w1 : World} (ns : List Nod) (A : Option Addr) (cap : Nat) (s : Sch) (As : Option Addr) (cs : Nat) (w : World) (hp : PrIn w0 ns A cap) (hs : SchIn w1 s As cs) [f0 : Fut w0 w] [f1 : Fut w1 w] :
    Calls Tryd.prog 35 #[.agg #[.slice A ns.length cap], s.val As cs] w fun e w' => e = .returned (.int .i64 (checkE ns s)) ∧ Step w w' := by
  have hl := hp.len
  have hls := hs.len
  have z0 := f0.below.size; have z1 := f1.below.size
  obtain ⟨R, hR⟩ : ∃ R, checkE ns s = R := ⟨_, rfl⟩
  have HR := hide hR
  rw [hR]
  clear hR
  unfold Sch.val
  have HPB := hide ((Blk.new w [.slice A ns.length cap] 24).alloc (.cells #[.int .i64 s.id, .slice As s.cols.length cs, .int .i64 s.next] 27))
  have HSB := hide (Blk.new_at (w := w.alloc (.cells #[.slice A ns.length cap] 24)) (b := w.heap.size + 1) (by simp) [.int .i64 s.id, .slice As s.cols.length cs, .int .i64 s.next] 27)
  have pm := fun w' [Fut w0 w'] => ppred_any ns A cap w' hp
  have sm := fun w' [Fut w1 w'] => pmay s As cs w' hs
  unfold Sch.val at sm
  cases hpb : predB ns with
  | false =>
    have HX : Hid (checkE ns s = 1500) := by show _ = _; simp [checkE, hpb]
    rw [hpb] at pm
    have PM := hide pm
    clear pm sm hpb
    go_enter Tryd.func35, Tryd.ntmps35
    go_wp2_with fail
    refine (PM.out _).mono ?_
    rintro e w2 ⟨rfl, hs2⟩
    go_wp2_with fail
    go_ret
    exact ⟨ret_int (by rw [← HR.out, HX.out]), Step.of⟩
  | true =>
    rw [hpb] at pm
    have PM := hide pm; have HPT := hide hpb
    clear pm hpb
    cases hm : mayB s with
    | false =>
      have HX : Hid (checkE ns s = 1500) := by show _ = _; simp [checkE, hm]
      rw [hm] at sm
      have SM := hide sm
      clear sm hm
      go_enter Tryd.func35, Tryd.ntmps35
      go_wp2_with fail
      refine (PM.out _).mono ?_
      rintro e w2 ⟨rfl, hs2⟩
      obtain ⟨q0, q1, q2⟩ := At.z3 (HSB.out.fut (w' := w2)).at0
      have lq := (HSB.out.fut (w' := w2)).lt
      go_wp2_with fail
      refine (SM.out _).mono ?_
      rintro e w3 ⟨rfl, hs3⟩
      clear q0 q1 q2 lq
      go_wp2_with fail
      go_ret
      exact ⟨ret_int (by rw [← HR.out, HX.out]), Step.of⟩
    | true =>
      have HX : Hid (checkE ns s = firstE s ns) := by show _ = _; rw [checkE, if_pos ⟨HPT.out, hm⟩]
      rw [hm] at sm
      have SM := hide sm
      clear sm hm
      go_enter Tryd.func35, Tryd.ntmps35
      go_wp2_with fail
      refine (PM.out _).mono ?_
      rintro e w2 ⟨rfl, hs2⟩
      obtain ⟨q0, q1, q2⟩ := At.z3 (HSB.out.fut (w' := w2)).at0
      have lq := (HSB.out.fut (w' := w2)).lt
      go_wp2_with fail
      refine (SM.out _).mono ?_
      rintro e w3 ⟨rfl, hs3⟩
      clear q0 q1 q2 lq
      have p0 := At.z1 (HPB.out.fut (w' := w3)).at0
      have lp := (HPB.out.fut (w' := w3)).lt
      have z3 := hs3.size; have z2 := hs2.size
      simp only [hsz] at z2
      clear PM SM
      go_wp2_with fail
      clear p0 lp
      go_loopw [6, 7, 19] (fun _ _ i wr => ∃ k : Nat, k ≤ ns.length ∧ i = .int .i64 k ∧ Hid (∀ i, i < k → ∀ m, ns[i]? = some m → nodE s m = 0) ∧ Step w3 wr) (fun _ _ i _ => ns.length - (intOf i).toNat)
      case atStart => exact ⟨0, Nat.zero_le _, rfl, hide (fun i hi => absurd hi (Nat.not_lt_zero _)), Step.of⟩
      case round =>
        obtain ⟨k, hk, rfl, HO, hst⟩ := hrel
        have hs1 := hst.size
        by_cases hlt : k < ns.length
        · obtain ⟨b, off, rfl, hb, n, hn, hat⟩ := hp.node (w' := wr) inferInstance hlt
          have hlb : b < wr.heap.size := by omega
          have HN := hide hn; clear hn
          obtain ⟨n0, n1, n2, n3, n4, n5, n6, n7, n8⟩ := At.l9 hat
          clear hat
          obtain ⟨q0, q1, q2⟩ := At.z3 (HSB.out.fut (w' := wr)).at0
          have lq := (HSB.out.fut (w' := wr)).lt
          by_cases k12 : n.kind = 1 ∨ n.kind = 2
          · have fd := fun w' [Fut w1 w'] => pfind s As cs n.col w' hs
            unfold Sch.val at fd
            have FD := hide fd
            clear fd
            rcases idx_cases (named n.col) s.cols with hi | ⟨j, hi, hj⟩
            · have HE := hide (nodE_none (s := s) k12 (by omega))
              have fd := FD.out
              rw [hi] at fd
              have FD2 := hide fd
              clear FD fd hi
              rcases k12 with k1 | k1
              all_goals
                rw [k1] at n0
                clear k1
                go_wp2_with fail
                refine (FD2.out _).mono ?_
                rintro e w4 ⟨rfl, hs4⟩
                go_wp2_with fail
                go_ret
                exact ⟨ret_int (by rw [← HR.out, HX.out, firstE_hit s HN.out HO.out (by rw [HE.out]; decide), HE.out]), Step.of⟩
            · have fd := FD.out
              rw [hi] at fd
              have FD2 := hide fd
              have HI := hide hi
              clear FD fd hi
              rcases k12 with k1 | k1
              · have HE := hide (nodE_kind k1 HI.out hj)
                rw [k1] at n0
                clear k1
                have HNB := hide (Blk.new wr [.int .i64 1, .string n.col, .int .i64 n.cmp, .int .i64 n.v.kind, .int .i64 n.v.i, .bool n.v.b, .string n.v.s, .int .i64 n.l, .int .i64 n.r] 59)
                go_wp2_with fail
                refine (FD2.out _).mono ?_
                rintro e w4 ⟨rfl, hs4⟩
                clear q0 q1 q2 lq n0 n1 n2 n3 n4 n5 n6 n7 n8
                obtain ⟨q0, q1, q2⟩ := At.z3 (HSB.out.fut (w' := w4)).at0
                have lq := (HSB.out.fut (w' := w4)).lt
                obtain ⟨n0, n1, n2, n3, n4, n5, n6, n7, n8⟩ := At.z9 (HNB.out.fut (w' := w4)).at0
                have ln := (HNB.out.fut (w' := w4)).lt
                obtain ⟨bc, oc, rfl, hbc, hac⟩ := hs.col (w' := w4) inferInstance hj
                obtain ⟨c0, c1, c2⟩ := At.l3 hac
                have hlc : bc < w4.heap.size := by have := (fut w1 w4).size; omega
                have hj0 : (0 : Int) ≤ (j : Int) := by omega
                have hj1 : (j : Int) < (s.cols.length : Int) := by omega
                clear hac
                by_cases hkk : n.v.kind = s.cols[j].kind
                · have e1 : (n.v.kind != s.cols[j].kind) = false := by simpa using hkk
                  have HE2 : Hid (nodE s n = 0) := by show _ = _; rw [HE.out, if_pos hkk]
                  clear hkk
                  go_wp2_with fail
                  go_quiet (fail)
                  go_wp2_with fail
                  go_roundw
                  case rel => exact ⟨k + 1, by omega, by go_num, hide (ext_zero HO.out HN.out HE2.out), Step.of⟩
                  case measure => simp [intOf]; omega
                · have e1 : (n.v.kind != s.cols[j].kind) = true := by simpa using hkk
                  have HE2 : Hid (nodE s n = 1502) := by show _ = _; rw [HE.out, if_neg hkk]
                  clear hkk
                  go_wp2_with fail
                  go_quiet (fail)
                  go_wp2_with fail
                  go_ret
                  exact ⟨ret_int (by rw [← HR.out, HX.out, firstE_hit s HN.out HO.out (by rw [HE2.out]; decide), HE2.out]), Step.of⟩
              · have HE := hide (nodE_two (s := s) k1 (by rw [HI.out]; omega))
                rw [k1] at n0
                clear k1
                have HNB := hide (Blk.new wr [.int .i64 2, .string n.col, .int .i64 n.cmp, .int .i64 n.v.kind, .int .i64 n.v.i, .bool n.v.b, .string n.v.s, .int .i64 n.l, .int .i64 n.r] 59)
                go_wp2_with fail
                refine (FD2.out _).mono ?_
                rintro e w4 ⟨rfl, hs4⟩
                clear q0 q1 q2 lq n0 n1 n2 n3 n4 n5 n6 n7 n8
                obtain ⟨n0, n1, n2, n3, n4, n5, n6, n7, n8⟩ := At.z9 (HNB.out.fut (w' := w4)).at0
                have ln := (HNB.out.fut (w' := w4)).lt
                go_wp2_with fail
                go_quiet (fail)
                go_wp2_with fail
                go_roundw
                case rel => exact ⟨k + 1, by omega, by go_num, hide (ext_zero HO.out HN.out HE.out), Step.of⟩
                case measure => simp [intOf]; omega
          · have k1 : n.kind ≠ 1 := fun e => k12 (.inl e)
            have k2 : n.kind ≠ 2 := fun e => k12 (.inr e)
            have HE := hide (nodE_skip (s := s) k1 k2)
            have e1 : (n.kind != 1) = true := by simpa using k1
            have e2 : (n.kind != 2) = true := by simpa using k2
            clear k12 k1 k2
            go_wp2_with fail
            go_roundw
            case rel => exact ⟨k + 1, by omega, by go_num, hide (ext_zero HO.out HN.out HE.out), Step.of⟩
            case measure => simp [intOf]; omega
        · obtain rfl : k = ns.length := by omega
          go_wp2_with fail
          go_ret
          exact ⟨ret_int (by rw [← HR.out, HX.out, firstE_zero s HO.out]), Step.of⟩
end Go.Proofs.YtafgfehjdbomfaaDoor
