/-
  Texts put together: Pk, PrL, Pn, Gd, Ge, Gb, Rw.
-/
import Derived.Deep.RegionHeld3
import Derived.Deep.RegionLaw
import Derived.Deep.Cut
import Derived.Deep.CutBlock
import Derived.Test.YtnphokhehacfnaaGreatDoorCz00
import Derived.Test.YtnphokhehacfnaaGreatDoorCz01
import Derived.Test.YtnphokhehacfnaaGreatDoorCz02
import Derived.Test.YtnphokhehacfnaaGreatDoorCz03
import Derived.Test.YtnphokhehacfnaaGreatDoorCz04
namespace Go.Proofs.YtnphokhehacfnaaGreatDoor
open Go.RowKit

/-- Column j, in whatever later world. -/
theorem SchIn.col {w w' : World} {s : Sch} {A : Option Addr} {cap : Nat} (h : SchIn w s A cap) (hf : Fut w w') {j : Nat} (hj : j < s.cols.length) :
    ∃ b off, A = some ⟨b, off, none⟩ ∧ b < w.heap.size ∧ At w' b (off + j * 3) s.cols[j].cells := by
  obtain ⟨b, off, e, hb, hc⟩ := h.at_.elem hf (k := j) (by simpa using hj)
  exact ⟨b, off, e, hb, hc j _ (by simp [hj])⟩
theorem nodE_skip {s : Sch} {n : Nod} (h1 : n.kind ≠ 1) (h2 : n.kind ≠ 2) : nodE s n = 0 := by rw [nodE, if_pos ⟨h1, h2⟩]
theorem nodE_none {s : Sch} {n : Nod} (h1 : n.kind = 1 ∨ n.kind = 2) (hi : idx (named n.col) s.cols < 0) : nodE s n = 1501 := by rw [nodE, if_neg (by omega), if_pos hi]
theorem nodE_two {s : Sch} {n : Nod} (h1 : n.kind = 2) (hi : ¬ idx (named n.col) s.cols < 0) : nodE s n = 0 := by rw [nodE, if_neg (by omega), if_neg hi, if_neg (by omega)]
theorem nodE_kind {s : Sch} {n : Nod} {j : Nat} (h1 : n.kind = 1) (hi : idx (named n.col) s.cols = (j : Int)) (hj : j < s.cols.length) : nodE s n = if n.v.kind = s.cols[j].kind then 0 else 1502 := by
  obtain ⟨e, _⟩ := idx_yes (p := named n.col) (l := s.cols) (by omega)
  have e2 : s.cols.findIdx (named n.col) = j := by omega
  rw [nodE, if_neg (by omega), if_neg (by omega), e2, List.getD_eq_getElem?_getD, List.getElem?_eq_getElem hj]
  simp only [Option.getD_some]
  by_cases h : n.v.kind = s.cols[j].kind
  · rw [if_neg (by simp [h]), if_pos h]
  · rw [if_pos ⟨h1, h⟩, if_neg h]
theorem ext_zero {s : Sch} {ns : List Nod} {k : Nat} {n : Nod} (h : ∀ i, i < k → ∀ m, ns[i]? = some m → nodE s m = 0) (hn : ns[k]? = some n) (h0 : nodE s n = 0) : ∀ i, i < k + 1 → ∀ m, ns[i]? = some m → nodE s m = 0 := by
  intro i hi m hm
  rcases Nat.lt_or_eq_of_le (Nat.le_of_lt_succ hi) with e | rfl
  · exact h i e m hm
  · rw [hn] at hm; injection hm with hm; subst hm; exact h0

set_option maxRecDepth 100000 in
set_option maxHeartbeats 8000000 in
theorem pcheck_any {w0 w1 : World} (ns : List Nod) (A : Option Addr) (cap : Nat) (s : Sch) (As : Option Addr) (cs : Nat) (w : World) (hp : PrIn w0 ns A cap) (hs : SchIn w1 s As cs) [f0 : Fut w0 w] [f1 : Fut w1 w] :
    Calls Tryz.prog 158 #[.agg #[.slice A ns.length cap], s.val As cs] w fun e w' => e = .returned (.int .i64 (checkE ns s)) ∧ Step w w' := by
  have hl := hp.len
  have hls := hs.len
  have z0 := f0.below.size; have z1 := f1.below.size
  obtain ⟨R, hR⟩ : ∃ R, checkE ns s = R := ⟨_, rfl⟩
  have HR := hide hR
  rw [hR]
  clear hR
  unfold Sch.val
  have HPB := hide ((Blk.new w [.slice A ns.length cap] 34).alloc (.cells #[.int .i64 s.id, .slice As s.cols.length cs, .int .i64 s.next] 24))
  have HSB := hide (Blk.new_at (w := w.alloc (.cells #[.slice A ns.length cap] 34)) (b := w.heap.size + 1) (by simp) [.int .i64 s.id, .slice As s.cols.length cs, .int .i64 s.next] 24)
  have pm := fun w' [Fut w0 w'] => ppred_any ns A cap w' hp
  have sm := fun w' [Fut w1 w'] => pmay s As cs w' hs
  unfold Sch.val at sm
  cases hpb : predB ns with
  | false =>
    have HX : Hid (checkE ns s = 1500) := by show _ = _; simp [checkE, hpb]
    rw [hpb] at pm
    have PM := hide pm
    clear pm sm hpb
    go_enter Tryz.func158, Tryz.ntmps158
    go_wp2_with fail
    refine (PM.out _).mono ?_
    rintro e w2 ⟨rfl, hs2⟩
    go_wp2_with fail
    go_ret
    exact ⟨ret_int (by rw [← HR.out, HX.out]), Step.of⟩
  | true =>
    rw [hpb] at pm
    have PM := hide pm; have HPT := hide hpb
    clear pm hpb
    cases hm : mayB s with
    | false =>
      have HX : Hid (checkE ns s = 1500) := by show _ = _; simp [checkE, hm]
      rw [hm] at sm
      have SM := hide sm
      clear sm hm
      go_enter Tryz.func158, Tryz.ntmps158
      go_wp2_with fail
      refine (PM.out _).mono ?_
      rintro e w2 ⟨rfl, hs2⟩
      obtain ⟨q0, q1, q2⟩ := At.z3 (HSB.out.fut (w' := w2)).at0
      have lq := (HSB.out.fut (w' := w2)).lt
      go_wp2_with fail
      refine (SM.out _).mono ?_
      rintro e w3 ⟨rfl, hs3⟩
      clear q0 q1 q2 lq
      go_wp2_with fail
      go_ret
      exact ⟨ret_int (by rw [← HR.out, HX.out]), Step.of⟩
    | true =>
      have HX : Hid (checkE ns s = firstE s ns) := by show _ = _; rw [checkE, if_pos ⟨HPT.out, hm⟩]
      rw [hm] at sm
      have SM := hide sm
      clear sm hm
      go_enter Tryz.func158, Tryz.ntmps158
      go_wp2_with fail
      refine (PM.out _).mono ?_
      rintro e w2 ⟨rfl, hs2⟩
      obtain ⟨q0, q1, q2⟩ := At.z3 (HSB.out.fut (w' := w2)).at0
      have lq := (HSB.out.fut (w' := w2)).lt
      go_wp2_with fail
      refine (SM.out _).mono ?_
      rintro e w3 ⟨rfl, hs3⟩
      clear q0 q1 q2 lq
      have p0 := At.z1 (HPB.out.fut (w' := w3)).at0
      have lp := (HPB.out.fut (w' := w3)).lt
      have z3 := hs3.size; have z2 := hs2.size
      simp only [hsz] at z2
      clear PM SM
      go_wp2_with fail
      clear p0 lp
      go_loopw [6, 7, 19] (fun _ _ i wr => ∃ k : Nat, k ≤ ns.length ∧ i = .int .i64 k ∧ Hid (∀ i, i < k → ∀ m, ns[i]? = some m → nodE s m = 0) ∧ Step w3 wr) (fun _ _ i _ => ns.length - (intOf i).toNat)
      case atStart => exact ⟨0, Nat.zero_le _, rfl, hide (fun i hi => absurd hi (Nat.not_lt_zero _)), Step.of⟩
      case round =>
        obtain ⟨k, hk, rfl, HO, hst⟩ := hrel
        have hs1 := hst.size
        by_cases hlt : k < ns.length
        · obtain ⟨b, off, rfl, hb, n, hn, hat⟩ := hp.node (w' := wr) inferInstance hlt
          have hlb : b < wr.heap.size := by omega
          have HN := hide hn; clear hn
          obtain ⟨n0, n1, n2, n3, n4, n5, n6, n7, n8⟩ := At.l9 hat
          clear hat
          obtain ⟨q0, q1, q2⟩ := At.z3 (HSB.out.fut (w' := wr)).at0
          have lq := (HSB.out.fut (w' := wr)).lt
          by_cases k12 : n.kind = 1 ∨ n.kind = 2
          · have fd := fun w' [Fut w1 w'] => pfind s As cs n.col w' hs
            unfold Sch.val at fd
            have FD := hide fd
            clear fd
            rcases idx_cases (named n.col) s.cols with hi | ⟨j, hi, hj⟩
            · have HE := hide (nodE_none (s := s) k12 (by omega))
              have fd := FD.out
              rw [hi] at fd
              have FD2 := hide fd
              clear FD fd hi
              rcases k12 with k1 | k1
              all_goals
                rw [k1] at n0
                clear k1
                go_wp2_with fail
                refine (FD2.out _).mono ?_
                rintro e w4 ⟨rfl, hs4⟩
                go_wp2_with fail
                go_ret
                exact ⟨ret_int (by rw [← HR.out, HX.out, firstE_hit s HN.out HO.out (by rw [HE.out]; decide), HE.out]), Step.of⟩
            · have fd := FD.out
              rw [hi] at fd
              have FD2 := hide fd
              have HI := hide hi
              clear FD fd hi
              rcases k12 with k1 | k1
              · have HE := hide (nodE_kind k1 HI.out hj)
                rw [k1] at n0
                clear k1
                have HNB := hide (Blk.new wr [.int .i64 1, .string n.col, .int .i64 n.cmp, .int .i64 n.v.kind, .int .i64 n.v.i, .bool n.v.b, .string n.v.s, .int .i64 n.l, .int .i64 n.r] 77)
                go_wp2_with fail
                refine (FD2.out _).mono ?_
                rintro e w4 ⟨rfl, hs4⟩
                clear q0 q1 q2 lq n0 n1 n2 n3 n4 n5 n6 n7 n8
                obtain ⟨q0, q1, q2⟩ := At.z3 (HSB.out.fut (w' := w4)).at0
                have lq := (HSB.out.fut (w' := w4)).lt
                obtain ⟨n0, n1, n2, n3, n4, n5, n6, n7, n8⟩ := At.z9 (HNB.out.fut (w' := w4)).at0
                have ln := (HNB.out.fut (w' := w4)).lt
                obtain ⟨bc, oc, rfl, hbc, hac⟩ := hs.col (w' := w4) inferInstance hj
                obtain ⟨c0, c1, c2⟩ := At.l3 hac
                have hlc : bc < w4.heap.size := by have := (fut w1 w4).size; omega
                have hj0 : (0 : Int) ≤ (j : Int) := by omega
                have hj1 : (j : Int) < (s.cols.length : Int) := by omega
                clear hac
                by_cases hkk : n.v.kind = s.cols[j].kind
                · have e1 : (n.v.kind != s.cols[j].kind) = false := by simpa using hkk
                  have HE2 : Hid (nodE s n = 0) := by show _ = _; rw [HE.out, if_pos hkk]
                  clear hkk
                  go_wp2_with fail
                  go_quiet (fail)
                  go_wp2_with fail
                  go_roundw
                  case rel => exact ⟨k + 1, by omega, by go_num, hide (ext_zero HO.out HN.out HE2.out), Step.of⟩
                  case measure => simp [intOf]; omega
                · have e1 : (n.v.kind != s.cols[j].kind) = true := by simpa using hkk
                  have HE2 : Hid (nodE s n = 1502) := by show _ = _; rw [HE.out, if_neg hkk]
                  clear hkk
                  go_wp2_with fail
                  go_quiet (fail)
                  go_wp2_with fail
                  go_ret
                  exact ⟨ret_int (by rw [← HR.out, HX.out, firstE_hit s HN.out HO.out (by rw [HE2.out]; decide), HE2.out]), Step.of⟩
              · have HE := hide (nodE_two (s := s) k1 (by rw [HI.out]; omega))
                rw [k1] at n0
                clear k1
                have HNB := hide (Blk.new wr [.int .i64 2, .string n.col, .int .i64 n.cmp, .int .i64 n.v.kind, .int .i64 n.v.i, .bool n.v.b, .string n.v.s, .int .i64 n.l, .int .i64 n.r] 77)
                go_wp2_with fail
                refine (FD2.out _).mono ?_
                rintro e w4 ⟨rfl, hs4⟩
                clear q0 q1 q2 lq n0 n1 n2 n3 n4 n5 n6 n7 n8
                obtain ⟨n0, n1, n2, n3, n4, n5, n6, n7, n8⟩ := At.z9 (HNB.out.fut (w' := w4)).at0
                have ln := (HNB.out.fut (w' := w4)).lt
                go_wp2_with fail
                go_quiet (fail)
                go_wp2_with fail
                go_roundw
                case rel => exact ⟨k + 1, by omega, by go_num, hide (ext_zero HO.out HN.out HE.out), Step.of⟩
                case measure => simp [intOf]; omega
          · have k1 : n.kind ≠ 1 := fun e => k12 (.inl e)
            have k2 : n.kind ≠ 2 := fun e => k12 (.inr e)
            have HE := hide (nodE_skip (s := s) k1 k2)
            have e1 : (n.kind != 1) = true := by simpa using k1
            have e2 : (n.kind != 2) = true := by simpa using k2
            clear k12 k1 k2
            go_wp2_with fail
            go_roundw
            case rel => exact ⟨k + 1, by omega, by go_num, hide (ext_zero HO.out HN.out HE.out), Step.of⟩
            case measure => simp [intOf]; omega
        · obtain rfl : k = ns.length := by omega
          go_wp2_with fail
          go_ret
          exact ⟨ret_int (by rw [← HR.out, HX.out, firstE_zero s HO.out]), Step.of⟩
end Go.Proofs.YtnphokhehacfnaaGreatDoor

namespace Go.Proofs.YtnphokhehacfnaaGreatDoor
open Go.RowKit

theorem checkE_inv {ns : List Nod} {s : Sch} (h : checkE ns s = 0) : predB ns = true ∧ mayB s = true ∧ ∀ n ∈ ns, nodE s n = 0 := by
  unfold checkE at h
  split at h
  · rename_i hp
    exact ⟨hp.1, hp.2, (firstE_zero_iff s).1 h⟩
  · cases h
theorem predB_iff {ns : List Nod} : predB ns = true ↔ ns.length ≤ 24 ∧ ∀ i n, ns[i]? = some n → nodB n i = true := by
  unfold predB
  rw [Bool.and_eq_true, decide_eq_true_eq, nodsUpto_iff]
  exact and_congr_right fun _ => ⟨fun h i n hn => h i (List.getElem?_eq_some_iff.1 hn).1 n hn, fun h i _ n hn => h i n hn⟩
def notN (l : Int) : Nod := ⟨3, .empty, 0, Val.zero, l, 0⟩
def andN (l r : Int) : Nod := ⟨4, .empty, 0, Val.zero, l, r⟩
def orN (l r : Int) : Nod := ⟨5, .empty, 0, Val.zero, l, r⟩
end Go.Proofs.YtnphokhehacfnaaGreatDoor

namespace Go.Proofs.YtnphokhehacfnaaGreatDoor
open Go.RowKit


/-- What Check gives of node k: its column's place, or those ahead that it names. -/
theorem node_col {ns : List Nod} {s : Sch} {k : Nat} {n : Nod} (h : checkE ns s = 0) (hn : ns[k]? = some n) (hk : n.kind = 1 ∨ n.kind = 2) : ∃ j : Nat, idx (named n.col) s.cols = (j : Int) ∧ j < s.cols.length ∧ s.cols.findIdx (named n.col) = j := by
  obtain ⟨_, _, h3⟩ := checkE_inv h
  have he := h3 n (List.mem_of_getElem? hn)
  rcases idx_cases (named n.col) s.cols with hi | ⟨j, hi, hj⟩
  · rw [nodE_none hk (by omega)] at he; cases he
  · obtain ⟨e, _⟩ := idx_yes (p := named n.col) (l := s.cols) (by omega)
    exact ⟨j, hi, hj, by omega⟩
theorem node_kinds {ns : List Nod} {s : Sch} {k : Nat} {n : Nod} (h : checkE ns s = 0) (hn : ns[k]? = some n) :
    n.kind = 0 ∨ (n.kind = 1 ∨ n.kind = 2) ∨ (n.kind = 3 ∧ ∃ l : Nat, n.l = l ∧ l < k) ∨ ((n.kind = 4 ∨ n.kind = 5) ∧ ∃ l r : Nat, n.l = l ∧ n.r = r ∧ l < k ∧ r < k) := by
  obtain ⟨h1, _, _⟩ := checkE_inv h
  have hb := (predB_iff.1 h1).2 k n hn
  unfold nodB ahead at hb
  split at hb
  · omega
  split at hb
  · omega
  split at hb
  · rename_i h3
    simp only [Bool.and_eq_true, decide_eq_true_eq] at hb
    exact .inr (.inr (.inl ⟨h3, n.l.toNat, by omega, by omega⟩))
  split at hb
  · rename_i h4
    simp only [Bool.and_eq_true, decide_eq_true_eq] at hb
    exact .inr (.inr (.inr ⟨h4, n.l.toNat, n.r.toNat, by omega, by omega, by omega, by omega⟩))
  · cases hb
theorem evalT_get {s : Sch} {vs : List Val} {ns : List Nod} {k l : Nat} (hk : k ≤ ns.length) (hl : l < k) : ∃ x, (evalT s vs (ns.take k))[l]? = some x ∧ (evalT s vs (ns.take k)).getD l 0 = x ∧ Tr x := by
  have hlen : (evalT s vs (ns.take k)).length = k := by rw [evalT_len]; simp; omega
  have hx : (evalT s vs (ns.take k))[l]? = some ((evalT s vs (ns.take k))[l]'(by omega)) := List.getElem?_eq_getElem (by omega)
  exact ⟨_, hx, by rw [List.getD_eq_getElem?_getD, hx]; rfl, evalT_tr s vs (ns.take k) _ (List.mem_of_getElem? hx)⟩
theorem lastT_snoc (l : List Int) (x : Int) : lastT (l ++ [x]) = x := by simp [lastT]
theorem step_true {s : Sch} {vs : List Val} {acc : List Int} {n : Nod} (h : n.kind = 0) : stepT s vs acc n = 1 := by simp [stepT, h]
theorem step_leaf {s : Sch} {vs : List Val} {acc : List Int} {n : Nod} {j : Nat} {v : Val} (h : n.kind = 1 ∨ n.kind = 2) (hj : s.cols.findIdx (named n.col) = j) (hv : vs[j]? = some v) : stepT s vs acc n = leafT n v := by
  rw [stepT, if_neg (by omega), if_pos h, hj, List.getD_eq_getElem?_getD, hv]
  rfl
theorem step_not {s : Sch} {vs : List Val} {acc : List Int} {n : Nod} {l : Nat} {x : Int} (h : n.kind = 3) (hl : n.l = l) (hx : acc.getD l 0 = x) : stepT s vs acc n = joinT 3 x x := by
  rw [stepT, if_neg (by omega), if_neg (by omega), if_pos h, hl, Int.toNat_natCast, hx]
theorem step_two {s : Sch} {vs : List Val} {acc : List Int} {n : Nod} {l r : Nat} {x y : Int} (h : n.kind = 4 ∨ n.kind = 5) (hl : n.l = l) (hr : n.r = r) (hx : acc.getD l 0 = x) (hy : acc.getD r 0 = y) : stepT s vs acc n = joinT n.kind x y := by
  rw [stepT, if_neg (by omega), if_neg (by omega), if_neg (by omega), hl, hr, Int.toNat_natCast, Int.toNat_natCast, hx, hy]

end Go.Proofs.YtnphokhehacfnaaGreatDoor

namespace Go.Proofs.YtnphokhehacfnaaGreatDoor
open Go.RowKit


set_option maxRecDepth 100000 in
set_option maxHeartbeats 16000000 in
theorem pclone_any {w0 : World} (r : RowA) (w : World) (hr : RowIn w0 r) [f0 : Fut w0 w] :
    Calls Tryz.prog 115 #[.agg #[.slice r.A r.vs.length r.cap]] w fun e w' => ∃ (A' : Option Addr) (c' : Nat), e = .returned (.agg #[.slice A' r.vs.length c']) ∧ Own w' w.heap.size 36 4 (.slice A' r.vs.length c') ((r.vs.map clean).map Val.cells) ∧ Step w w' := by
  have z0 := f0.below.size
  have hcap := hr.hcap; have hcapm := hr.hcapm
  obtain ⟨W, hW⟩ : ∃ W, W = ((w.alloc (.cells #[.slice r.A r.vs.length r.cap] 67)).alloc (.cells #[.slice none 0 0] 67)).alloc (.cells #[.slice none 0 0] 67) := ⟨_, rfl⟩
  have SW : Step w W := by rw [hW]; exact Step.of
  have HRB : Hid (Blk W w.heap.size 67 [.slice r.A r.vs.length r.cap]) := by rw [hW]; exact ((Blk.new w [.slice r.A r.vs.length r.cap] 67).alloc _).alloc _
  have HC2 : Hid (Blk W (w.heap.size + 1) 67 [.slice none 0 0]) := by rw [hW]; exact (Blk.new_at (by simp) [.slice none 0 0] 67).alloc _
  have HC3 : Hid (Blk W (w.heap.size + 2) 67 [.slice none 0 0]) := by rw [hW]; exact Blk.new_at (by simp) [.slice none 0 0] 67
  have HW := hide hW
  have hzW := SW.size
  clear hW
  go_enter Tryz.func115, Tryz.ntmps115
  go_upto_region 2 with (fail)
  rw [← HW.out]
  have r0 := At.z1 HRB.out.at0; have lr := HRB.out.lt
  go_wp2_with fail
  clear r0 lr HRB HW
  obtain ⟨c2, hc2⟩ : ∃ c2, c2 = w.heap.size + 1 := ⟨_, rfl⟩
  obtain ⟨c3, hc3⟩ : ∃ c3, c3 = w.heap.size + 1 + 1 := ⟨_, rfl⟩
  have HC3 : Hid (Blk W c3 67 [.slice none 0 0]) := by rw [hc3]; exact HC3.out
  rw [← hc3]
  rw [← hc2] at HC2
  rw [← hc2]
  have NC3 : Newer w c3 := ⟨by omega⟩
  have NC2 : Newer w c2 := ⟨by omega⟩
  have hc23 : c2 < c3 := by omega
  have hc3W : c3 < W.heap.size := HC3.out.lt
  have hc2W : c2 < W.heap.size := HC2.out.lt
  clear hc2 hc3
  go_loopw [5, 9] (fun _ i wr => ∃ (k : Nat) (A' : Option Addr) (c' : Nat), k ≤ r.vs.length ∧ i = .int .i64 k ∧ Blk wr c3 67 [.slice A' k c'] ∧ Blk wr c2 67 [.slice none 0 0] ∧ Own wr W.heap.size 36 4 (.slice A' k c') (((r.vs.take k).map clean).map Val.cells) ∧ W.heap.size ≤ wr.heap.size ∧ Step w wr) (fun _ i _ => r.vs.length - (intOf i).toNat)
  case atStart => exact ⟨0, none, 0, Nat.zero_le _, rfl, HC3.out, HC2.out, Own.nil_ _ _ _ _, Nat.le_refl _, SW⟩
  case round =>
    obtain ⟨k, A', c', hk, rfl, hb3, hb2, hown, hWwo, hst⟩ := hrel
    clear HC3 HC2
    have HO := hide hown; have HC3 := hide hb3; have HC2 := hide hb2
    clear hown hb3 hb2
    obtain ⟨wo, hwo⟩ : ∃ x : World, x = wr := ⟨_, rfl⟩
    rw [← hwo] at HO HC3 HC2 hst hWwo
    rw [← hwo]
    clear hwo
    have hzo := hst.size
    by_cases hlt : k < r.vs.length
    · obtain ⟨b, off, hA, hb, hc⟩ := hr.at_.elem (w' := wo) inferInstance (k := k) (by simpa using hlt)
      rw [hA]
      obtain ⟨v, hv⟩ : ∃ v, r.vs[k]? = some v := ⟨_, List.getElem?_eq_getElem hlt⟩
      obtain ⟨v0, v1, v2, v3⟩ := At.l4 (hc k v.cells (by simp [hv]))
      have hlb : b < wo.heap.size := by omega
      have hkl : (k : Int) < (r.vs.length : Int) := by omega
      have hk0 : (0 : Int) ≤ (k : Int) := by omega
      have HTK : Hid (((r.vs.take (k + 1)).map clean).map Val.cells = ((r.vs.take k).map clean).map Val.cells ++ [[.int .i64 (kindV v), .int .i64 (clean v).i, .bool (clean v).b, .string (clean v).s]]) := by show _ = _; rw [List.take_add_one, hv]; simp [box_cells]
      have HLN : Hid ((((r.vs.take k).map clean).map Val.cells).length = k) := by show _ = _; simp; omega
      have PV := hide (plain_ag v)
      clear hc hv hA
      have k3 := At.z1 HC3.out.at0; have lc3 := HC3.out.lt
      go_upto_region 5 with (fail)
      clear v0 v1 v2 v3 hlb
      refine wp_region_held_drew (S := (fun w' => Step w w' ∧ True)) (by kernel_rfl) (by (try dsimp only); (exact ⟨Step.of, trivial⟩)) (fun hHeld => ?_)
      refine wT 0 13 (by assumption) ?_
      refine wpAnyH_ready (rs := [1, 2]) (by kernel_rfl) (by simp) ?_
      refine AllReadyH.cons (o := ⟨some 14, _, _, _, _, _⟩) rfl (fun K hK => ?_) (AllReadyH.cons (o := ⟨some 15, _, _, _, _, _⟩) rfl (fun K hK => ?_) AllReadyH.nil)
      · go_simp
        refine hK.out _ _ (by (try dsimp only); (exact ⟨Step.of, trivial⟩)) (fun hHeld => ?_)
        clear hK K
        (try simp only [Act.put, List.setIfInBounds_toArray, List.set_cons_zero, List.set_cons_succ])
        refine wpAnyH_ready (rs := [2]) (by kernel_rfl) (by simp) ?_
        refine AllReadyH.cons (o := ⟨some 15, _, _, _, _, _⟩) rfl (fun K hK => ?_) AllReadyH.nil
        go_simp
        refine hK.out _ _ (by (try dsimp only); (exact ⟨Step.of, trivial⟩)) (fun hHeld => ?_)
        clear hK K
        (try simp only [Act.put, List.setIfInBounds_toArray, List.set_cons_zero, List.set_cons_succ])
        refine wpAnyH_ready (rs := [3]) (by kernel_rfl) (by simp) ?_
        refine AllReadyH.cons (o := ⟨some 16, _, _, _, _, _⟩) rfl (fun K hK => ?_) AllReadyH.nil
        obtain ⟨hS1, hS2⟩ := hHeld
        go_simp
        (go_at_call 109; (with_reducible refine (PV.out _).mono ?_); rintro e w6 ⟨rfl, hs6⟩; clear k3 lc3; have k3 := At.z1 (HC3.out.fut (w' := w6)).at0; have lc3 := (HC3.out.fut (w' := w6)).lt)
        refine hK.out _ _ (by (try dsimp only); (exact ⟨Step.of, trivial⟩)) (fun hHeld => ?_)
        clear hK K
        (try simp only [Act.put, List.setIfInBounds_toArray, List.set_cons_zero, List.set_cons_succ])
        refine wpAnyH_ready (rs := [4]) (by kernel_rfl) (by simp) ?_
        refine AllReadyH.cons (o := ⟨some 17, _, _, _, _, _⟩) rfl (fun K hK => ?_) AllReadyH.nil
        go_simp
        refine hK.out _ _ (by (try dsimp only); (exact ⟨Step.of, trivial⟩)) (fun hHeld => ?_)
        clear hK K
        (try simp only [Act.put, List.setIfInBounds_toArray, List.set_cons_zero, List.set_cons_succ])
        refine wpAnyH_ready (rs := [5]) (by kernel_rfl) (by simp) ?_
        refine AllReadyH.cons (o := ⟨some 18, _, _, _, _, _⟩) rfl (fun K hK => ?_) AllReadyH.nil
        (have HOW := hide ((HO.out.fut (w' := w6)).alloc (.cells #[.int .i64 (kindV v), .int .i64 (clean v).i, .bool (clean v).b, .string (clean v).s] 36)); have HNew := hide (SlAt.one w6 4 [.int .i64 (kindV v), .int .i64 (clean v).i, .bool (clean v).b, .string (clean v).s] 36); refine step_append_sl rfl (.tmp 14) (.tmp 17) 65 rfl eiV4 (base := W.heap.size) (xs := ((r.vs.take k).map clean).map Val.cells) rfl HOW.out (vals_fit _) (ys := [[.int .i64 (kindV v), .int .i64 (clean v).i, .bool (clean v).b, .string (clean v).s]]) rfl (by simp) HNew.out (box_fit v) (by rw [HLN.out]; show (k + 1) * 40 ≤ _; omega) (Nat.le_trans hWwo (fut wo (w6.alloc (.cells #[.int .i64 (kindV v), .int .i64 (clean v).i, .bool (clean v).b, .string (clean v).s] 36))).size) (N := k + 1) (by rw [HLN.out]; rfl) ?_; intro A7 c7 w7 hq1 hq2 hown7 hgr7 hbel7; have H7 := hide hown7; have hz7 := Nat.le_trans (Nat.le_trans hWwo (fut wo (w6.alloc (.cells #[.int .i64 (kindV v), .int .i64 (clean v).i, .bool (clean v).b, .string (clean v).s] 36))).size) hbel7.size; have hs7 : Step w w7 := ⟨(fut w (w6.alloc (.cells #[.int .i64 (kindV v), .int .i64 (clean v).i, .bool (clean v).b, .string (clean v).s] 36))).trans (hbel7.mono SW.size)⟩; have hb3 := ((HC3.out.fut (w' := w6)).alloc (.cells #[.int .i64 (kindV v), .int .i64 (clean v).i, .bool (clean v).b, .string (clean v).s] 36)).below hbel7 hc3W; have HD2 := hide (((HC2.out.fut (w' := w6)).alloc (.cells #[.int .i64 (kindV v), .int .i64 (clean v).i, .bool (clean v).b, .string (clean v).s] 36)).below hbel7 hc2W); clear k3 lc3; have k3 := At.z1 hb3.at0; have f3 := hb3.free; have lc3 := hb3.lt; have HD3 := hide hb3; clear hown7 hgr7 hbel7 hb3)
        refine hK.out _ _ (by (try dsimp only); (exact ⟨hs7, trivial⟩)) (fun hHeld => ?_)
        clear hK K
        (try simp only [Act.put, List.setIfInBounds_toArray, List.set_cons_zero, List.set_cons_succ])
        refine wT 6 19 (by assumption) ?_
        refine wpAnyH_ready (rs := [7]) (by kernel_rfl) (by simp) ?_
        refine AllReadyH.cons (o := ⟨none, _, _, _, _, _⟩) rfl (fun K hK => ?_) AllReadyH.nil
        go_simp
        refine hK.out _ _ (by (try dsimp only); (exact ⟨⟨(fut w w7).setCell NC3.le _⟩, trivial⟩)) (fun hHeld => ?_)
        clear hK K
        (try simp only [Act.put, List.setIfInBounds_toArray, List.set_cons_zero, List.set_cons_succ])
        refine wpAnyH_done (by kernel_rfl) ?_ _
        go_wp2_with fail
        go_roundw
        case rel =>
          refine ⟨k + 1, A7, c7, by omega, by go_num, HD3.out.set_ 0 _, HD2.out.far (by simp; omega) _, ?_, by simp [World.setCell]; exact hz7, ⟨(fut w w7).setCell NC3.le _⟩⟩
          rw [HTK.out]
          exact H7.out.set_other HD3.out (by decide) 0 _
        case measure => simp [intOf]; omega
      · go_simp
        refine hK.out _ _ (by (try dsimp only); (exact ⟨Step.of, trivial⟩)) (fun hHeld => ?_)
        clear hK K
        (try simp only [Act.put, List.setIfInBounds_toArray, List.set_cons_zero, List.set_cons_succ])
        refine wpAnyH_ready (rs := [1, 3]) (by kernel_rfl) (by simp) ?_
        refine AllReadyH.cons (o := ⟨some 14, _, _, _, _, _⟩) rfl (fun K hK => ?_) (AllReadyH.cons (o := ⟨some 16, _, _, _, _, _⟩) rfl (fun K hK => ?_) AllReadyH.nil)
        · go_simp
          refine hK.out _ _ (by (try dsimp only); (exact ⟨Step.of, trivial⟩)) (fun hHeld => ?_)
          clear hK K
          (try simp only [Act.put, List.setIfInBounds_toArray, List.set_cons_zero, List.set_cons_succ])
          refine wpAnyH_ready (rs := [3]) (by kernel_rfl) (by simp) ?_
          refine AllReadyH.cons (o := ⟨some 16, _, _, _, _, _⟩) rfl (fun K hK => ?_) AllReadyH.nil
          obtain ⟨hS1, hS2⟩ := hHeld
          go_simp
          (go_at_call 109; (with_reducible refine (PV.out _).mono ?_); rintro e w6 ⟨rfl, hs6⟩; clear k3 lc3; have k3 := At.z1 (HC3.out.fut (w' := w6)).at0; have lc3 := (HC3.out.fut (w' := w6)).lt)
          refine hK.out _ _ (by (try dsimp only); (exact ⟨Step.of, trivial⟩)) (fun hHeld => ?_)
          clear hK K
          (try simp only [Act.put, List.setIfInBounds_toArray, List.set_cons_zero, List.set_cons_succ])
          refine wpAnyH_ready (rs := [4]) (by kernel_rfl) (by simp) ?_
          refine AllReadyH.cons (o := ⟨some 17, _, _, _, _, _⟩) rfl (fun K hK => ?_) AllReadyH.nil
          go_simp
          refine hK.out _ _ (by (try dsimp only); (exact ⟨Step.of, trivial⟩)) (fun hHeld => ?_)
          clear hK K
          (try simp only [Act.put, List.setIfInBounds_toArray, List.set_cons_zero, List.set_cons_succ])
          refine wpAnyH_ready (rs := [5]) (by kernel_rfl) (by simp) ?_
          refine AllReadyH.cons (o := ⟨some 18, _, _, _, _, _⟩) rfl (fun K hK => ?_) AllReadyH.nil
          (have HOW := hide ((HO.out.fut (w' := w6)).alloc (.cells #[.int .i64 (kindV v), .int .i64 (clean v).i, .bool (clean v).b, .string (clean v).s] 36)); have HNew := hide (SlAt.one w6 4 [.int .i64 (kindV v), .int .i64 (clean v).i, .bool (clean v).b, .string (clean v).s] 36); refine step_append_sl rfl (.tmp 14) (.tmp 17) 65 rfl eiV4 (base := W.heap.size) (xs := ((r.vs.take k).map clean).map Val.cells) rfl HOW.out (vals_fit _) (ys := [[.int .i64 (kindV v), .int .i64 (clean v).i, .bool (clean v).b, .string (clean v).s]]) rfl (by simp) HNew.out (box_fit v) (by rw [HLN.out]; show (k + 1) * 40 ≤ _; omega) (Nat.le_trans hWwo (fut wo (w6.alloc (.cells #[.int .i64 (kindV v), .int .i64 (clean v).i, .bool (clean v).b, .string (clean v).s] 36))).size) (N := k + 1) (by rw [HLN.out]; rfl) ?_; intro A7 c7 w7 hq1 hq2 hown7 hgr7 hbel7; have H7 := hide hown7; have hz7 := Nat.le_trans (Nat.le_trans hWwo (fut wo (w6.alloc (.cells #[.int .i64 (kindV v), .int .i64 (clean v).i, .bool (clean v).b, .string (clean v).s] 36))).size) hbel7.size; have hs7 : Step w w7 := ⟨(fut w (w6.alloc (.cells #[.int .i64 (kindV v), .int .i64 (clean v).i, .bool (clean v).b, .string (clean v).s] 36))).trans (hbel7.mono SW.size)⟩; have hb3 := ((HC3.out.fut (w' := w6)).alloc (.cells #[.int .i64 (kindV v), .int .i64 (clean v).i, .bool (clean v).b, .string (clean v).s] 36)).below hbel7 hc3W; have HD2 := hide (((HC2.out.fut (w' := w6)).alloc (.cells #[.int .i64 (kindV v), .int .i64 (clean v).i, .bool (clean v).b, .string (clean v).s] 36)).below hbel7 hc2W); clear k3 lc3; have k3 := At.z1 hb3.at0; have f3 := hb3.free; have lc3 := hb3.lt; have HD3 := hide hb3; clear hown7 hgr7 hbel7 hb3)
          refine hK.out _ _ (by (try dsimp only); (exact ⟨hs7, trivial⟩)) (fun hHeld => ?_)
          clear hK K
          (try simp only [Act.put, List.setIfInBounds_toArray, List.set_cons_zero, List.set_cons_succ])
          refine wT 6 19 (by assumption) ?_
          refine wpAnyH_ready (rs := [7]) (by kernel_rfl) (by simp) ?_
          refine AllReadyH.cons (o := ⟨none, _, _, _, _, _⟩) rfl (fun K hK => ?_) AllReadyH.nil
          go_simp
          refine hK.out _ _ (by (try dsimp only); (exact ⟨⟨(fut w w7).setCell NC3.le _⟩, trivial⟩)) (fun hHeld => ?_)
          clear hK K
          (try simp only [Act.put, List.setIfInBounds_toArray, List.set_cons_zero, List.set_cons_succ])
          refine wpAnyH_done (by kernel_rfl) ?_ _
          go_wp2_with fail
          go_roundw
          case rel =>
            refine ⟨k + 1, A7, c7, by omega, by go_num, HD3.out.set_ 0 _, HD2.out.far (by simp; omega) _, ?_, by simp [World.setCell]; exact hz7, ⟨(fut w w7).setCell NC3.le _⟩⟩
            rw [HTK.out]
            exact H7.out.set_other HD3.out (by decide) 0 _
          case measure => simp [intOf]; omega
        · obtain ⟨hS1, hS2⟩ := hHeld
          go_simp
          (go_at_call 109; (with_reducible refine (PV.out _).mono ?_); rintro e w6 ⟨rfl, hs6⟩; clear k3 lc3; have k3 := At.z1 (HC3.out.fut (w' := w6)).at0; have lc3 := (HC3.out.fut (w' := w6)).lt)
          refine hK.out _ _ (by (try dsimp only); (exact ⟨Step.of, trivial⟩)) (fun hHeld => ?_)
          clear hK K
          (try simp only [Act.put, List.setIfInBounds_toArray, List.set_cons_zero, List.set_cons_succ])
          refine wpAnyH_ready (rs := [1, 4]) (by kernel_rfl) (by simp) ?_
          refine AllReadyH.cons (o := ⟨some 14, _, _, _, _, _⟩) rfl (fun K hK => ?_) (AllReadyH.cons (o := ⟨some 17, _, _, _, _, _⟩) rfl (fun K hK => ?_) AllReadyH.nil)
          · go_simp
            refine hK.out _ _ (by (try dsimp only); (exact ⟨Step.of, trivial⟩)) (fun hHeld => ?_)
            clear hK K
            (try simp only [Act.put, List.setIfInBounds_toArray, List.set_cons_zero, List.set_cons_succ])
            refine wpAnyH_ready (rs := [4]) (by kernel_rfl) (by simp) ?_
            refine AllReadyH.cons (o := ⟨some 17, _, _, _, _, _⟩) rfl (fun K hK => ?_) AllReadyH.nil
            go_simp
            refine hK.out _ _ (by (try dsimp only); (exact ⟨Step.of, trivial⟩)) (fun hHeld => ?_)
            clear hK K
            (try simp only [Act.put, List.setIfInBounds_toArray, List.set_cons_zero, List.set_cons_succ])
            refine wpAnyH_ready (rs := [5]) (by kernel_rfl) (by simp) ?_
            refine AllReadyH.cons (o := ⟨some 18, _, _, _, _, _⟩) rfl (fun K hK => ?_) AllReadyH.nil
            (have HOW := hide ((HO.out.fut (w' := w6)).alloc (.cells #[.int .i64 (kindV v), .int .i64 (clean v).i, .bool (clean v).b, .string (clean v).s] 36)); have HNew := hide (SlAt.one w6 4 [.int .i64 (kindV v), .int .i64 (clean v).i, .bool (clean v).b, .string (clean v).s] 36); refine step_append_sl rfl (.tmp 14) (.tmp 17) 65 rfl eiV4 (base := W.heap.size) (xs := ((r.vs.take k).map clean).map Val.cells) rfl HOW.out (vals_fit _) (ys := [[.int .i64 (kindV v), .int .i64 (clean v).i, .bool (clean v).b, .string (clean v).s]]) rfl (by simp) HNew.out (box_fit v) (by rw [HLN.out]; show (k + 1) * 40 ≤ _; omega) (Nat.le_trans hWwo (fut wo (w6.alloc (.cells #[.int .i64 (kindV v), .int .i64 (clean v).i, .bool (clean v).b, .string (clean v).s] 36))).size) (N := k + 1) (by rw [HLN.out]; rfl) ?_; intro A7 c7 w7 hq1 hq2 hown7 hgr7 hbel7; have H7 := hide hown7; have hz7 := Nat.le_trans (Nat.le_trans hWwo (fut wo (w6.alloc (.cells #[.int .i64 (kindV v), .int .i64 (clean v).i, .bool (clean v).b, .string (clean v).s] 36))).size) hbel7.size; have hs7 : Step w w7 := ⟨(fut w (w6.alloc (.cells #[.int .i64 (kindV v), .int .i64 (clean v).i, .bool (clean v).b, .string (clean v).s] 36))).trans (hbel7.mono SW.size)⟩; have hb3 := ((HC3.out.fut (w' := w6)).alloc (.cells #[.int .i64 (kindV v), .int .i64 (clean v).i, .bool (clean v).b, .string (clean v).s] 36)).below hbel7 hc3W; have HD2 := hide (((HC2.out.fut (w' := w6)).alloc (.cells #[.int .i64 (kindV v), .int .i64 (clean v).i, .bool (clean v).b, .string (clean v).s] 36)).below hbel7 hc2W); clear k3 lc3; have k3 := At.z1 hb3.at0; have f3 := hb3.free; have lc3 := hb3.lt; have HD3 := hide hb3; clear hown7 hgr7 hbel7 hb3)
            refine hK.out _ _ (by (try dsimp only); (exact ⟨hs7, trivial⟩)) (fun hHeld => ?_)
            clear hK K
            (try simp only [Act.put, List.setIfInBounds_toArray, List.set_cons_zero, List.set_cons_succ])
            refine wT 6 19 (by assumption) ?_
            refine wpAnyH_ready (rs := [7]) (by kernel_rfl) (by simp) ?_
            refine AllReadyH.cons (o := ⟨none, _, _, _, _, _⟩) rfl (fun K hK => ?_) AllReadyH.nil
            go_simp
            refine hK.out _ _ (by (try dsimp only); (exact ⟨⟨(fut w w7).setCell NC3.le _⟩, trivial⟩)) (fun hHeld => ?_)
            clear hK K
            (try simp only [Act.put, List.setIfInBounds_toArray, List.set_cons_zero, List.set_cons_succ])
            refine wpAnyH_done (by kernel_rfl) ?_ _
            go_wp2_with fail
            go_roundw
            case rel =>
              refine ⟨k + 1, A7, c7, by omega, by go_num, HD3.out.set_ 0 _, HD2.out.far (by simp; omega) _, ?_, by simp [World.setCell]; exact hz7, ⟨(fut w w7).setCell NC3.le _⟩⟩
              rw [HTK.out]
              exact H7.out.set_other HD3.out (by decide) 0 _
            case measure => simp [intOf]; omega
          · go_simp
            refine hK.out _ _ (by (try dsimp only); (exact ⟨Step.of, trivial⟩)) (fun hHeld => ?_)
            clear hK K
            (try simp only [Act.put, List.setIfInBounds_toArray, List.set_cons_zero, List.set_cons_succ])
            refine wpAnyH_ready (rs := [1]) (by kernel_rfl) (by simp) ?_
            refine AllReadyH.cons (o := ⟨some 14, _, _, _, _, _⟩) rfl (fun K hK => ?_) AllReadyH.nil
            go_simp
            refine hK.out _ _ (by (try dsimp only); (exact ⟨Step.of, trivial⟩)) (fun hHeld => ?_)
            clear hK K
            (try simp only [Act.put, List.setIfInBounds_toArray, List.set_cons_zero, List.set_cons_succ])
            refine wpAnyH_ready (rs := [5]) (by kernel_rfl) (by simp) ?_
            refine AllReadyH.cons (o := ⟨some 18, _, _, _, _, _⟩) rfl (fun K hK => ?_) AllReadyH.nil
            (have HOW := hide ((HO.out.fut (w' := w6)).alloc (.cells #[.int .i64 (kindV v), .int .i64 (clean v).i, .bool (clean v).b, .string (clean v).s] 36)); have HNew := hide (SlAt.one w6 4 [.int .i64 (kindV v), .int .i64 (clean v).i, .bool (clean v).b, .string (clean v).s] 36); refine step_append_sl rfl (.tmp 14) (.tmp 17) 65 rfl eiV4 (base := W.heap.size) (xs := ((r.vs.take k).map clean).map Val.cells) rfl HOW.out (vals_fit _) (ys := [[.int .i64 (kindV v), .int .i64 (clean v).i, .bool (clean v).b, .string (clean v).s]]) rfl (by simp) HNew.out (box_fit v) (by rw [HLN.out]; show (k + 1) * 40 ≤ _; omega) (Nat.le_trans hWwo (fut wo (w6.alloc (.cells #[.int .i64 (kindV v), .int .i64 (clean v).i, .bool (clean v).b, .string (clean v).s] 36))).size) (N := k + 1) (by rw [HLN.out]; rfl) ?_; intro A7 c7 w7 hq1 hq2 hown7 hgr7 hbel7; have H7 := hide hown7; have hz7 := Nat.le_trans (Nat.le_trans hWwo (fut wo (w6.alloc (.cells #[.int .i64 (kindV v), .int .i64 (clean v).i, .bool (clean v).b, .string (clean v).s] 36))).size) hbel7.size; have hs7 : Step w w7 := ⟨(fut w (w6.alloc (.cells #[.int .i64 (kindV v), .int .i64 (clean v).i, .bool (clean v).b, .string (clean v).s] 36))).trans (hbel7.mono SW.size)⟩; have hb3 := ((HC3.out.fut (w' := w6)).alloc (.cells #[.int .i64 (kindV v), .int .i64 (clean v).i, .bool (clean v).b, .string (clean v).s] 36)).below hbel7 hc3W; have HD2 := hide (((HC2.out.fut (w' := w6)).alloc (.cells #[.int .i64 (kindV v), .int .i64 (clean v).i, .bool (clean v).b, .string (clean v).s] 36)).below hbel7 hc2W); clear k3 lc3; have k3 := At.z1 hb3.at0; have f3 := hb3.free; have lc3 := hb3.lt; have HD3 := hide hb3; clear hown7 hgr7 hbel7 hb3)
            refine hK.out _ _ (by (try dsimp only); (exact ⟨hs7, trivial⟩)) (fun hHeld => ?_)
            clear hK K
            (try simp only [Act.put, List.setIfInBounds_toArray, List.set_cons_zero, List.set_cons_succ])
            refine wT 6 19 (by assumption) ?_
            refine wpAnyH_ready (rs := [7]) (by kernel_rfl) (by simp) ?_
            refine AllReadyH.cons (o := ⟨none, _, _, _, _, _⟩) rfl (fun K hK => ?_) AllReadyH.nil
            go_simp
            refine hK.out _ _ (by (try dsimp only); (exact ⟨⟨(fut w w7).setCell NC3.le _⟩, trivial⟩)) (fun hHeld => ?_)
            clear hK K
            (try simp only [Act.put, List.setIfInBounds_toArray, List.set_cons_zero, List.set_cons_succ])
            refine wpAnyH_done (by kernel_rfl) ?_ _
            go_wp2_with fail
            go_roundw
            case rel =>
              refine ⟨k + 1, A7, c7, by omega, by go_num, HD3.out.set_ 0 _, HD2.out.far (by simp; omega) _, ?_, by simp [World.setCell]; exact hz7, ⟨(fut w w7).setCell NC3.le _⟩⟩
              rw [HTK.out]
              exact H7.out.set_other HD3.out (by decide) 0 _
            case measure => simp [intOf]; omega
    · obtain rfl : k = r.vs.length := by omega
      have k3 := At.z1 HC3.out.at0; have lc3 := HC3.out.lt
      have k2 := At.z1 HC2.out.at0; have f2 := HC2.out.free; have lc2 := HC2.out.lt
      rw [List.take_length] at HO
      go_wp2_with fail
      have HR := hide (HC2.out.set_ 0 (.slice A' r.vs.length c'))
      have t0 := At.z1 HR.out.at0
      refine bodyPost_ret (v := .agg #[.slice A' r.vs.length c']) (by simp [results, Tryz.results115, go_sem, t0]) rfl ?_
      exact ⟨A', c', rfl, (HO.out.set_other HC2.out (by decide) 0 (.slice A' r.vs.length c')).more (base' := w.heap.size) (by omega), ⟨(fut w wo).setCell NC2.le _⟩⟩
end Go.Proofs.YtnphokhehacfnaaGreatDoor

namespace Go.Proofs.YtnphokhehacfnaaGreatDoor
open Go.RowKit


def takeOk (n : Nat) (at_ : List Int) (j : Nat) : Bool := (at_.take j).all fun k => decide (0 ≤ k) && decide (k < (n : Int))
def takeTo (vss : List (List Val)) (at_ : List Int) (j : Nat) : List (List Val) := (at_.take j).map fun k => (vss.getD k.toNat []).map clean
def takeR (vss : List (List Val)) (at_ : List Int) : List (List Val) × Int := if takeOk vss.length at_ at_.length = true then (takeTo vss at_ at_.length, 0) else ([], 1600)
theorem takeOk_bad {n j : Nat} {at_ : List Int} {x : Int} (hx : at_[j]? = some x) (hb : x < 0 ∨ (n : Int) ≤ x) : takeOk n at_ at_.length = false := by
  unfold takeOk
  rw [List.take_length]
  cases h : at_.all (fun k => decide (0 ≤ k) && decide (k < (n : Int))) with
  | false => rfl
  | true =>
    have := List.all_eq_true.1 h x (List.mem_of_getElem? hx)
    simp at this
    omega
theorem takeOk_succ {n j : Nat} {at_ : List Int} {x : Nat} (h : takeOk n at_ j = true) (hx : at_[j]? = some (x : Int)) (hb : x < n) : takeOk n at_ (j + 1) = true := by
  unfold takeOk at h ⊢
  rw [List.take_add_one, hx, List.all_append, h]
  simp
  omega
theorem takeTo_succ {vss : List (List Val)} {j x : Nat} {at_ : List Int} {vs : List Val} (hx : at_[j]? = some (x : Int)) (hv : vss[x]? = some vs) : takeTo vss at_ (j + 1) = takeTo vss at_ j ++ [vs.map clean] := by
  unfold takeTo
  rw [List.take_add_one, hx]
  simp [List.getD_eq_getElem?_getD, hv]

set_option maxRecDepth 100000 in
set_option maxHeartbeats 16000000 in
theorem ptake_any {w0 w1 : World} (rs : List RowA) (Ar : Option Addr) (cr : Nat) (at_ : List Int) (Aa : Option Addr) (ca : Nat) (w : World) (hr : RowsIn w0 rs Ar cr) (ha : SlAt w1 w1.heap.size 1 Aa (intCells at_)) [f0 : Fut w0 w] [f1 : Fut w1 w] (hal : at_.length ≤ 5864062014800) :
    Calls Tryz.prog 126 #[.slice Ar rs.length cr, .slice Aa at_.length ca] w fun e w' => ∃ (A' : Option Addr) (c' : Nat) (os : List RowA), os.map RowA.vs = (takeR (rs.map RowA.vs) at_).1 ∧ e = .returned (.tuple #[.slice A' os.length c', .int .i64 (takeR (rs.map RowA.vs) at_).2]) ∧ OwnR w' w.heap.size A' os.length c' os ∧ Step w w' := by
  have z0 := f0.below.size; have z1 := f1.below.size
  have hrc := hr.hcap; have hrm := hr.hcapm
  obtain ⟨T, hT⟩ : ∃ T, takeR (rs.map RowA.vs) at_ = T := ⟨_, rfl⟩
  have HT := hide hT
  rw [hT]
  clear hT
  go_enter Tryz.func126, Tryz.ntmps126
  go_wp2_with fail
  go_loopw [6, 8, 11] (fun out _ i wr => ∃ (j : Nat) (A' : Option Addr) (c' : Nat) (os : List RowA), j ≤ at_.length ∧ i = .int .i64 j ∧ out = .slice A' j c' ∧ Hid (takeOk rs.length at_ j = true) ∧ Hid (os.map RowA.vs = takeTo (rs.map RowA.vs) at_ j) ∧ Hid (os.length = j) ∧ OwnR wr w.heap.size A' j c' os ∧ Step w wr) (fun _ _ i _ => at_.length - (intOf i).toNat)
  case atStart => exact ⟨0, none, 0, [], Nat.zero_le _, rfl, rfl, rfl, rfl, rfl, ⟨Own.nil_ _ _ _ _, fun r h => by simp at h⟩, Step.of⟩
  case round =>
    obtain ⟨j, A', c', os, hj, rfl, rfl, HOK, HOS, HOL, hown, hst⟩ := hrel
    have HO := hide hown; clear hown
    obtain ⟨wo, rfl⟩ : ∃ x : World, x = wr := ⟨_, rfl⟩
    have hzo := hst.size
    by_cases hlt : j < at_.length
    · obtain ⟨b, off, rfl, hb, hc⟩ := ha.elem (w' := wo) inferInstance (k := j) (by rw [intCells_len]; exact hlt)
      obtain ⟨x, hx⟩ : ∃ x, at_[j]? = some x := ⟨_, List.getElem?_eq_getElem hlt⟩
      have x0 := At.l1 (hc j [.int .i64 x] (by simp [intCells, hx]))
      simp only [Nat.mul_one] at x0
      have hlb : b < wo.heap.size := by omega
      have hjl : (j : Int) < (at_.length : Int) := by omega
      have HX := hide hx
      clear hc hx
      by_cases hx1 : x < 0
      · have HBAD := hide (takeOk_bad (n := rs.length) HX.out (.inl hx1))
        have hE : Hid (T = ([], 1600)) := by show _ = _; rw [← HT.out, takeR, List.length_map, HBAD.out]; rfl
        go_wp2_with fail
        go_ret2
        exact ⟨none, 0, [], by rw [hE.out]; rfl, by rw [hE.out]; rfl, ⟨Own.nil_ _ _ _ _, fun r h => by simp at h⟩, Step.of⟩
      · by_cases hx2 : (rs.length : Int) ≤ x
        · have HBAD := hide (takeOk_bad (n := rs.length) HX.out (.inr hx2))
          have hE : Hid (T = ([], 1600)) := by show _ = _; rw [← HT.out, takeR, List.length_map, HBAD.out]; rfl
          go_wp2_with fail
          go_ret2
          exact ⟨none, 0, [], by rw [hE.out]; rfl, by rw [hE.out]; rfl, ⟨Own.nil_ _ _ _ _, fun r h => by simp at h⟩, Step.of⟩
        · obtain ⟨xn, rfl⟩ : ∃ xn : Nat, x = (xn : Int) := ⟨x.toNat, by omega⟩
          have hxn : xn < rs.length := by omega
          obtain ⟨b2, off2, rfl, hb2, r, hrk, hri, hcell⟩ := hr.row (w' := wo) inferInstance hxn
          have hlb2 : b2 < wo.heap.size := by omega
          have HVK : Hid ((rs.map RowA.vs)[xn]? = some r.vs) := by show _ = _; simp [hrk]
          have HTS := hide (takeTo_succ HX.out HVK.out)
          have HOK2 := hide (takeOk_succ HOK.out HX.out hxn)
          have PC := hide (fun w' [Fut w0 w'] => pclone_any r w' hri)
          have hx0 : (0 : Int) ≤ (xn : Int) := by omega
          have hx3 : (xn : Int) < (rs.length : Int) := by omega
          clear hrk hx1 hx2
          go_wp2_with (first
            | (go_at_call 115; refine (PC.out _).mono ?_; intro e w5 hr5; obtain ⟨A5, c5, rfl, ho5, hs5⟩ := hr5; have HN5 := hide (ho5.more (base' := w.heap.size) hzo); clear ho5)
            | (at_builtin; have HOW := hide ((HO.out.out.fut (w' := w5)).alloc (.cells #[.slice A5 r.vs.length c5] 67)); have HNew := hide (SlAt.one w5 1 [.slice A5 r.vs.length c5] 67); go_loud (refine wpList_append_sl rfl (.tmp 23) (.tmp 29) 28 rfl eiRow (base := w.heap.size) (xs := os.map RowA.cells) rfl HOW.out (rows_fit _) (ys := [[.slice A5 r.vs.length c5]]) rfl (by simp) HNew.out (slice_fit A5 r.vs.length c5) (by rw [List.length_map, HOL.out]; show (j + 1) * 24 ≤ _; omega) (fut w (w5.alloc (.cells #[.slice A5 r.vs.length c5] 67))).size (N := j + 1) (by rw [List.length_map, HOL.out]; rfl) ?_; intro A7 c7 w7 hq1 hq2 hown7 hgr7 hbel7; have HR7 := hide (OwnR.app (r := ⟨A5, c5, r.vs.map clean⟩) ((HO.out.fut (w' := w5)).fut (w' := w5.alloc (.cells #[.slice A5 r.vs.length c5] 67))) (own_len HN5.out.fut) (row_cells hown7) hgr7); have HB7 := hide hbel7; clear hown7 hgr7 hbel7)))
          go_roundw
          case rel => exact ⟨j + 1, A7, c7, os ++ [⟨A5, c5, r.vs.map clean⟩], by omega, by go_num, rfl, HOK2, by show _ = _; rw [HTS.out, ← HOS.out]; simp, by show _ = _; rw [List.length_append, HOL.out]; rfl, HR7.out, ⟨(fut w (w5.alloc (.cells #[.slice A5 r.vs.length c5] 67))).trans HB7.out⟩⟩
          case measure => simp [intOf]; omega
    · obtain rfl : j = at_.length := by omega
      have hE : Hid (T = (takeTo (rs.map RowA.vs) at_ at_.length, 0)) := by show _ = _; rw [← HT.out, takeR, List.length_map, if_pos HOK.out]
      go_wp2_with fail
      go_ret2
      exact ⟨A', c', os, by rw [hE.out]; exact HOS.out, by rw [hE.out, HOL.out]; rfl, by rw [HOL.out]; exact HO.out, Step.of⟩
end Go.Proofs.YtnphokhehacfnaaGreatDoor

namespace Go.Proofs.YtnphokhehacfnaaGreatDoor
open Go.RowKit

/-- The numbers from a up to b. -/
def rangeI (a : Nat) : Nat → List Int
  | 0 => []
  | b + 1 => if a ≤ b then rangeI a b ++ [(b : Int)] else []
/-- What stands when j places are left out: the next number, and what is given so far. -/
def stW (many : Int) (at_ : List Int) : Nat → Option (Nat × List Int)
  | 0 => some (0, [])
  | j + 1 => match stW many at_ j with
    | some st => if at_.getD j 0 < (st.1 : Int) ∨ many ≤ at_.getD j 0 then none else some ((at_.getD j 0).toNat + 1, st.2 ++ rangeI st.1 (at_.getD j 0).toNat)
    | none => none
def withoutR (many : Int) (at_ : List Int) : List Int × Int :=
  if many < 0 ∨ 4096 < many then ([], 1600) else match stW many at_ at_.length with
    | some st => (st.2 ++ rangeI st.1 many.toNat, 0)
    | none => ([], 1600)
end Go.Proofs.YtnphokhehacfnaaGreatDoor

namespace Go.Proofs.YtnphokhehacfnaaGreatDoor
open Go.RowKit

theorem rowB_len {s : Sch} {vs : List Val} (h : vs.length ≠ s.cols.length) : rowB s vs = false := by simp [rowB, h]
theorem rowB_of {s : Sch} {vs : List Val} (h : vs.length = s.cols.length) : rowB s vs = rowUpto s.cols vs s.cols.length := by simp [rowB, h]
theorem rowUpto_succ {cs : List Col} {vs : List Val} {k : Nat} {c : Col} {v : Val} (h : rowUpto cs vs k = true) (hc : cs[k]? = some c) (hv : vs[k]? = some v) (ho : cellOk c v = true) : rowUpto cs vs (k + 1) = true := by
  simp only [rowUpto, h, hc, hv, ho, Bool.and_self]

set_option maxHeartbeats 2000000 in
theorem prow_any {w0 w1 : World} (g : Nat) (s : Sch) (A : Option Addr) (cap : Nat) (vs : List Val) (Av : Option Addr) (cv : Nat) (w : World) (hb : Blk w0 g 24 [.int .i64 s.id, .slice A s.cols.length cap, .int .i64 s.next]) (h : SchIn w0 s A cap)
    (hv : SlAt w1 w1.heap.size 4 Av (vs.map Val.cells)) [f0 : Fut w0 w] [f1 : Fut w1 w] (hl : vs.length ≤ 4611686018427387904) :
    Calls Tryz.prog 196 #[.pointer (some ⟨g, 0, none⟩), .agg #[.slice Av vs.length cv]] w fun e w' => e = .returned (.bool (rowB s vs)) ∧ Step w w' := by
  have hat := h.at_
  have hn := h.len
  obtain ⟨id, cols, next⟩ := s
  simp only at hat hn hb
  have z0 := f0.below.size
  have z1 := f1.below.size
  have Hb := hide hb
  have lg := hb.lt
  obtain ⟨q0, q1, q2⟩ := At.z3 (hb.fut (w' := w)).at0
  have lg' : g < w.heap.size := by omega
  clear hb
  by_cases hlen : vs.length = cols.length
  · have hq : ((vs.length : Int) != (cols.length : Int)) = false := by simp; omega
    rw [rowB_of hlen]
    have HL := hide hlen; clear hlen
    simp only
    go_enter Tryz.func196, Tryz.ntmps196
    go_wp2
    go_quiet (fail)
    go_wp2
    clear q0 q1 q2
    go_loopw [5, 6, 7, 22] (fun _ _ _ i wr => ∃ k : Nat, k ≤ cols.length ∧ i = .int .i64 k ∧ rowUpto cols vs k = true ∧ Step (w.alloc (.cells #[.slice Av vs.length cv] 67)) wr) (fun _ _ _ i _ => cols.length - (intOf i).toNat)
    case atStart => exact ⟨0, Nat.zero_le _, rfl, rfl, Step.of⟩
    case round =>
      obtain ⟨k, hk, rfl, hok, hst⟩ := hrel
      have HO := hide hok; clear hok
      have hs1 := hst.size
      simp only [hsz] at hs1
      have hs2 : w.heap.size < wr.heap.size := by omega
      have HRB := hide ((Blk.new w [.slice Av vs.length cv] 67).fut (w' := wr))
      have r0 := At.z1 HRB.out.at0
      by_cases hlt : k < cols.length
      · obtain ⟨b, off, rfl, hb, hc⟩ := hat.elem (w' := wr) inferInstance (k := k) (by simpa using hlt)
        obtain ⟨c, hcc⟩ : ∃ c, cols[k]? = some c := ⟨_, List.getElem?_eq_getElem hlt⟩
        obtain ⟨h1, h2, h3⟩ := At.l3 (hc k c.cells (by simp [hcc]))
        obtain ⟨bv, ov, rfl, hbv, hcv⟩ := hv.elem (w' := wr) inferInstance (k := k) (by have := HL.out; simp; omega)
        obtain ⟨v, hvv⟩ : ∃ v, vs[k]? = some v := ⟨_, List.getElem?_eq_getElem (by have := HL.out; omega)⟩
        obtain ⟨v1, v2, v3, v4⟩ := At.l4 (hcv k v.cells (by simp [hvv]))
        have hs3 : b < wr.heap.size := by omega
        have hs4 : bv < wr.heap.size := by omega
        have HC := hide hcc; have HV := hide hvv
        have hkv : k < vs.length := by have := HL.out; omega
        clear hcc hvv hc hcv
        have HA := hide (Blk.new wr [.int .i64 c.id, .string c.name, .int .i64 c.kind] 90)
        go_wp2_with fail
        refine (plain_ag v _).mono ?_
        rintro e w2 ⟨rfl, hs⟩
        clear v1 v2 v3 v4 h1 h2 h3 r0
        have HA2 := hide (HA.out.fut (w' := w2))
        obtain ⟨a0, a1, a2⟩ := At.z3 HA2.out.at0
        have la := HA2.out.lt
        by_cases e1 : kindV v = 0
        · have hco : cellOk c v = true := by simp [cellOk, e1]
          have e1' : (kindV v != 0) = false := by simpa using e1
          have HCO := hide hco
          clear e1 hco
          go_wp2_with fail
          go_roundw
          case rel => exact ⟨k + 1, by omega, by go_num, rowUpto_succ HO.out HC.out HV.out HCO.out, Step.of⟩
          case measure => simp [intOf]; omega
        · have e1' : (kindV v != 0) = true := by simpa using e1
          by_cases e2 : kindV v = c.kind
          · have hco : cellOk c v = true := by simp [cellOk, e2]
            have e2' : (kindV v != c.kind) = false := by simpa using e2
            have HCO := hide hco
            clear e1 e2 hco
            go_wp2_with fail
            go_roundw
            case rel => exact ⟨k + 1, by omega, by go_num, rowUpto_succ HO.out HC.out HV.out HCO.out, Step.of⟩
            case measure => simp [intOf]; omega
          · have hco : cellOk c v = false := by simp [cellOk, e1, e2]
            have e2' : (kindV v != c.kind) = true := by simpa using e2
            have HCO := hide hco
            clear e1 e2 hco
            go_wp2_with fail
            go_ret
            exact ⟨ret_bool (rowUpto_bad HC.out HV.out HCO.out).symm, Step.of⟩
      · obtain rfl : k = cols.length := by omega
        go_wp2_with fail
        go_ret
        exact ⟨ret_bool HO.out.symm, Step.of⟩
  · have hq : ((vs.length : Int) != (cols.length : Int)) = true := by simp; omega
    rw [rowB_len hlen]
    clear hlen
    go_enter Tryz.func196, Tryz.ntmps196
    go_wp2
    go_quiet (fail)
    go_wp2
    go_ret
    exact ⟨rfl, Step.of⟩

end Go.Proofs.YtnphokhehacfnaaGreatDoor

