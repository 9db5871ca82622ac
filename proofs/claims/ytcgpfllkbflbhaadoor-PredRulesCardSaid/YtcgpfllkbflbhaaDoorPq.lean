/-
  The law PredRules answers true for every predicate, schema and row.
-/
import Derived.Test.YtcgpfllkbflbhaaDoorPl
namespace Go.Proofs.YtcgpfllkbflbhaaDoor
open Go.RowKit

theorem small_nod (n : Nod) (h : n.col = .empty ∧ n.v = Val.zero) : n.col.size ≤ 9223372036854775807 ∧ n.v.s.size ≤ 9223372036854775807 := by
  rw [h.1, h.2]
  exact ⟨by decide, by decide⟩

set_option maxRecDepth 100000 in
set_option maxHeartbeats 16000000 in
theorem rules_any (ns : List Nod) (A : Option Addr) (cap : Nat) (s : Sch) (As : Option Addr) (cs : Nat) (vs : List Val) (Av : Option Addr) (cv : Nat) (w : World) (hp : PrIn w ns A cap) (hs : SchIn w s As cs)
    (hv : SlAt w w.heap.size 4 Av (vs.map Val.cells)) (hvl : vs.length ≤ 4611686018427387904) :
    Calls Tryd.prog 4 #[.agg #[.slice A ns.length cap], .agg #[.int .i64 s.id, .slice As s.cols.length cs, .int .i64 s.next], .agg #[.slice Av vs.length cv]] w fun e w' => e = .returned (.bool true) ∧ Step w w' := by
  have hl := hp.len
  obtain ⟨W, hW⟩ : ∃ W, W = ((w.alloc (.cells #[.slice A ns.length cap] 24)).alloc (.cells #[.int .i64 s.id, .slice As s.cols.length cs, .int .i64 s.next] 27)).alloc (.cells #[.slice Av vs.length cv] 30) := ⟨_, rfl⟩
  have SW : Step w W := by rw [hW]; exact Step.of
  have HPW : Hid (Blk W w.heap.size 24 [.slice A ns.length cap]) := by rw [hW]; exact ((Blk.new w [.slice A ns.length cap] 24).alloc _).alloc _
  have HSW : Hid (Blk W (w.heap.size + 1) 27 [.int .i64 s.id, .slice As s.cols.length cs, .int .i64 s.next]) := by rw [hW]; exact (Blk.new_at (by simp) [.int .i64 s.id, .slice As s.cols.length cs, .int .i64 s.next] 27).alloc _
  have HRW : Hid (Blk W (w.heap.size + 1 + 1) 30 [.slice Av vs.length cv]) := by rw [hW]; exact Blk.new_at (by simp) [.slice Av vs.length cv] 30
  have HZW : Hid (w.heap.size + 1 + 1 < W.heap.size) := by rw [hW]; show _ < _; simp
  have HW := hide hW
  clear hW
  obtain ⟨t, d, hT⟩ : ∃ t d, truthR ns s vs = (t, d) := ⟨_, _, rfl⟩
  have t0 := fun w' [Fut w w'] => ptruthR_any ns A cap s As cs vs Av cv w' hp hs hv hvl
  rw [hT] at t0
  unfold Sch.val at t0
  have T0 := hide t0; clear t0
  have HT := hide hT; clear hT
  go_enter Tryd.func4, Tryd.ntmps4
  go_wp2_with fail
  refine (awake15_any _).mono ?_
  rintro e w1 ⟨rfl, hs1⟩
  rw [← HW.out] at hs1
  have z1 := hs1.size
  have hzw := HZW.out
  have p0 := At.z1 (HPW.out.fut (w' := w1)).at0; have lp : w.heap.size < w1.heap.size := by omega
  obtain ⟨q0, q1, q2⟩ := At.z3 (HSW.out.fut (w' := w1)).at0; have lq : w.heap.size + 1 < w1.heap.size := by omega
  have r0 := At.z1 (HRW.out.fut (w' := w1)).at0; have lr : w.heap.size + 1 + 1 < w1.heap.size := by omega
  go_wp2_with fail
  refine (T0.out _).mono ?_
  rintro e w2 ⟨rfl, hs2⟩
  have z2 := hs2.size
  clear p0 lp q0 q1 q2 lq r0 lr T0
  by_cases hd : d = 0
  · by_cases hk : 1 ≤ ns.length ∧ ns.length ≤ 18
    · obtain ⟨k, hkk⟩ : ∃ k, ns.length = k + 1 := ⟨ns.length - 1, by omega⟩
      obtain ⟨h1, h2⟩ := hk
      have hrules := rules_plain (t := t) (by rw [HT.out, hd]) hkk (by omega)
      subst hd
      obtain ⟨htr, R1, R2, R3, R4⟩ := hrules
      obtain ⟨b, hb⟩ : ∃ b, joinT 4 t (joinT 3 t t) = b := ⟨_, rfl⟩
      obtain ⟨c, hc⟩ : ∃ c, joinT 5 t (joinT 3 t t) = c := ⟨_, rfl⟩
      rw [hb] at R2
      rw [hc] at R3
      have hfin : ((t == 2) = true ∧ (b == t) = true ∧ (c == t) = true) ∨ ((t == 2) = false ∧ (b == 0) = true ∧ (c == 1) = true) := by
        subst hb hc
        rcases htr with rfl | rfl | rfl <;> decide
      have HF := hide hfin
      clear htr hb hc hfin
      have HK := hide hkk
      have hkn : (ns.length : Int) - 1 = (k : Int) := by omega
      have hkn2 : (ns.length : Int) = ((k + 1 : Nat) : Int) := by omega
      have B0 : Hid (∀ w' [Fut w w'], Calls Tryd.prog 31 #[.agg #[.slice A ns.length cap], .agg #[.int .i64 3, .string ⟨#[]⟩, .int .i64 0, .int .i64 0, .int .i64 0, .bool false, .string ⟨#[]⟩, .int .i64 ((ns.length : Int) - 1), .int .i64 0]] w' fun e w'' => ∃ (A' : Option Addr) (c' : Nat), e = .returned (.agg #[.slice A' (ns.length + 1) c']) ∧ PrIn w'' (ns ++ [notN k]) A' c' ∧ Step w' w'') := by
        intro w' _
        have := behind_any ns A cap (notN k) w' hp (by omega) (small_nod _ ⟨rfl, rfl⟩)
        rw [hkn]
        exact this
      have BS : Hid (∀ w' [Fut w w'], Calls Tryd.prog 31 #[.agg #[.slice A ns.length cap], .agg #[.int .i64 4, .string ⟨#[]⟩, .int .i64 0, .int .i64 0, .int .i64 0, .bool false, .string ⟨#[]⟩, .int .i64 ((ns.length : Int) - 1), .int .i64 ((ns.length : Int) - 1)]] w' fun e w'' => ∃ (A' : Option Addr) (c' : Nat), e = .returned (.agg #[.slice A' (ns.length + 1) c']) ∧ PrIn w'' (ns ++ [andN k k]) A' c' ∧ Step w' w'') := by
        intro w' _
        have := behind_any ns A cap (andN k k) w' hp (by omega) (small_nod _ ⟨rfl, rfl⟩)
        rw [hkn]
        exact this
      have HK2 := hide hkn; have HK3 := hide hkn2
      clear hkn hkn2 hkk
      have p0 := At.z1 (HPW.out.fut (w' := w2)).at0; have lp : w.heap.size < w2.heap.size := by omega
      have h1' : (0 : Int) < (ns.length : Int) := by omega
      have h1b : ((ns.length : Int) == 0) = false := beq_eq_false_iff_ne.2 (by omega)
      go_wp2_with (go_at_call 20; refine (numv_any _ _).mono ?_; rintro e w' ⟨rfl, rfl⟩)
      refine (B0.out _).mono ?_
      intro e w3 hr3
      obtain ⟨A3, c3, rfl, hi3, hs3⟩ := hr3
      have z3 := hs3.size
      have HN3 := hide (Blk.new w3 [.slice A3 (ns.length + 1) c3] 24)
      have HI3 := hide hi3; clear hi3
      clear p0 lp B0
      have B4 : Hid (∀ w' [Fut w3 w'], Calls Tryd.prog 31 #[.agg #[.slice A3 (ns.length + 1) c3], .agg #[.int .i64 3, .string ⟨#[]⟩, .int .i64 0, .int .i64 0, .int .i64 0, .bool false, .string ⟨#[]⟩, .int .i64 (ns.length : Int), .int .i64 0]] w' fun e w'' => ∃ (A' : Option Addr) (c' : Nat), e = .returned (.agg #[.slice A' (ns.length + 1 + 1) c']) ∧ PrIn w'' (ns ++ [notN k] ++ [notN ((k + 1 : Nat) : Int)]) A' c' ∧ Step w' w'') := by
        intro w' _
        have := behind_any (ns ++ [notN k]) A3 c3 (notN ((k + 1 : Nat) : Int)) w' HI3.out (by simp; omega) (small_nod _ ⟨rfl, rfl⟩)
        simp only [List.length_append, List.length_cons, List.length_nil, Nat.zero_add] at this
        rw [HK3.out]
        exact this
      go_wp2_with fail
      refine (B4.out _).mono ?_
      intro e w4 hr4
      obtain ⟨A4, c4, rfl, hi4, hs4⟩ := hr4
      have z4 := hs4.size
      simp only [hsz] at z4
      have HN4 := hide (Blk.new w4 [.slice A4 (ns.length + 1 + 1) c4] 24)
      have HI4 := hide hi4; clear hi4
      clear B4
      have B5 : Hid (∀ w' [Fut w3 w'], Calls Tryd.prog 31 #[.agg #[.slice A3 (ns.length + 1) c3], .agg #[.int .i64 4, .string ⟨#[]⟩, .int .i64 0, .int .i64 0, .int .i64 0, .bool false, .string ⟨#[]⟩, .int .i64 ((ns.length : Int) - 1), .int .i64 (ns.length : Int)]] w' fun e w'' => ∃ (A' : Option Addr) (c' : Nat), e = .returned (.agg #[.slice A' (ns.length + 1 + 1) c']) ∧ PrIn w'' (ns ++ [notN k] ++ [andN k ((k + 1 : Nat) : Int)]) A' c' ∧ Step w' w'') := by
        intro w' _
        have := behind_any (ns ++ [notN k]) A3 c3 (andN k ((k + 1 : Nat) : Int)) w' HI3.out (by simp; omega) (small_nod _ ⟨rfl, rfl⟩)
        simp only [List.length_append, List.length_cons, List.length_nil, Nat.zero_add] at this
        rw [HK2.out, HK3.out]
        exact this
      have k0 := At.z1 (HN3.out.fut (w' := w4.alloc (.cells #[.slice A4 (ns.length + 1 + 1) c4] 24))).at0; have lk : w3.heap.size < w4.heap.size + 1 := by omega
      go_wp2_with fail
      refine (B5.out _).mono ?_
      intro e w5 hr5
      obtain ⟨A5, c5, rfl, hi5, hs5⟩ := hr5
      have z5 := hs5.size
      simp only [hsz] at z5
      have HN5 := hide (Blk.new w5 [.slice A5 (ns.length + 1 + 1) c5] 24)
      have HI5 := hide hi5; clear hi5
      clear B5 k0 lk
      have B6 : Hid (∀ w' [Fut w3 w'], Calls Tryd.prog 31 #[.agg #[.slice A3 (ns.length + 1) c3], .agg #[.int .i64 5, .string ⟨#[]⟩, .int .i64 0, .int .i64 0, .int .i64 0, .bool false, .string ⟨#[]⟩, .int .i64 ((ns.length : Int) - 1), .int .i64 (ns.length : Int)]] w' fun e w'' => ∃ (A' : Option Addr) (c' : Nat), e = .returned (.agg #[.slice A' (ns.length + 1 + 1) c']) ∧ PrIn w'' (ns ++ [notN k] ++ [orN k ((k + 1 : Nat) : Int)]) A' c' ∧ Step w' w'') := by
        intro w' _
        have := behind_any (ns ++ [notN k]) A3 c3 (orN k ((k + 1 : Nat) : Int)) w' HI3.out (by simp; omega) (small_nod _ ⟨rfl, rfl⟩)
        simp only [List.length_append, List.length_cons, List.length_nil, Nat.zero_add] at this
        rw [HK2.out, HK3.out]
        exact this
      have k0 := At.z1 (HN3.out.fut (w' := w5.alloc (.cells #[.slice A5 (ns.length + 1 + 1) c5] 24))).at0; have lk : w3.heap.size < w5.heap.size + 1 := by omega
      go_wp2_with fail
      refine (B6.out _).mono ?_
      intro e w6 hr6
      obtain ⟨A6, c6, rfl, hi6, hs6⟩ := hr6
      have z6 := hs6.size
      simp only [hsz] at z6
      have HN6 := hide (Blk.new w6 [.slice A6 (ns.length + 1 + 1) c6] 24)
      have HI6 := hide hi6; clear hi6
      clear B6 k0 lk
      have p0 := At.z1 (HPW.out.fut (w' := w6.alloc (.cells #[.slice A6 (ns.length + 1 + 1) c6] 24))).at0; have lp : w.heap.size < w6.heap.size + 1 := by omega
      go_wp2_with fail
      refine (BS.out _).mono ?_
      intro e w7 hr7
      obtain ⟨A7, c7, rfl, hi7, hs7⟩ := hr7
      have z7 := hs7.size
      simp only [hsz] at z7
      have HN7 := hide (Blk.new w7 [.slice A7 (ns.length + 1) c7] 24)
      have HI7 := hide hi7; clear hi7
      clear p0 lp BS
      have tc8 := fun w' [Fut w4 w'] [Fut w w'] => ptruthR_any (ns ++ [notN k] ++ [notN ((k + 1 : Nat) : Int)]) A4 c4 s As cs vs Av cv w' HI4.out hs hv hvl
      rw [R1] at tc8
      unfold Sch.val at tc8
      simp only [List.length_append, List.length_cons, List.length_nil, Nat.zero_add] at tc8
      have TC8 := hide tc8; clear tc8
      have k0 := At.z1 (HN4.out.fut (w' := w7.alloc (.cells #[.slice A7 (ns.length + 1) c7] 24))).at0; have lk : w4.heap.size < w7.heap.size + 1 := by omega
      obtain ⟨q0, q1, q2⟩ := At.z3 (HSW.out.fut (w' := w7.alloc (.cells #[.slice A7 (ns.length + 1) c7] 24))).at0; have lq : w.heap.size + 1 < w7.heap.size + 1 := by omega
      have r0 := At.z1 (HRW.out.fut (w' := w7.alloc (.cells #[.slice A7 (ns.length + 1) c7] 24))).at0; have lr : w.heap.size + 1 + 1 < w7.heap.size + 1 := by omega
      go_wp2_with fail
      refine (TC8.out _).mono ?_
      rintro e w8 ⟨rfl, hs8⟩
      have z8 := hs8.size
      simp only [hsz] at z8
      clear k0 lk q0 q1 q2 lq r0 lr TC8
      have tc9 := fun w' [Fut w5 w'] [Fut w w'] => ptruthR_any (ns ++ [notN k] ++ [andN k ((k + 1 : Nat) : Int)]) A5 c5 s As cs vs Av cv w' HI5.out hs hv hvl
      rw [R2] at tc9
      unfold Sch.val at tc9
      simp only [List.length_append, List.length_cons, List.length_nil, Nat.zero_add] at tc9
      have TC9 := hide tc9; clear tc9
      have k0 := At.z1 (HN5.out.fut (w' := w8)).at0; have lk : w5.heap.size < w8.heap.size := by omega
      obtain ⟨q0, q1, q2⟩ := At.z3 (HSW.out.fut (w' := w8)).at0; have lq : w.heap.size + 1 < w8.heap.size := by omega
      have r0 := At.z1 (HRW.out.fut (w' := w8)).at0; have lr : w.heap.size + 1 + 1 < w8.heap.size := by omega
      go_wp2_with fail
      refine (TC9.out _).mono ?_
      rintro e w9 ⟨rfl, hs9⟩
      have z9 := hs9.size
      clear k0 lk q0 q1 q2 lq r0 lr TC9
      have tc10 := fun w' [Fut w6 w'] [Fut w w'] => ptruthR_any (ns ++ [notN k] ++ [orN k ((k + 1 : Nat) : Int)]) A6 c6 s As cs vs Av cv w' HI6.out hs hv hvl
      rw [R3] at tc10
      unfold Sch.val at tc10
      simp only [List.length_append, List.length_cons, List.length_nil, Nat.zero_add] at tc10
      have TC10 := hide tc10; clear tc10
      have k0 := At.z1 (HN6.out.fut (w' := w9)).at0; have lk : w6.heap.size < w9.heap.size := by omega
      obtain ⟨q0, q1, q2⟩ := At.z3 (HSW.out.fut (w' := w9)).at0; have lq : w.heap.size + 1 < w9.heap.size := by omega
      have r0 := At.z1 (HRW.out.fut (w' := w9)).at0; have lr : w.heap.size + 1 + 1 < w9.heap.size := by omega
      go_wp2_with fail
      refine (TC10.out _).mono ?_
      rintro e w10 ⟨rfl, hs10⟩
      have z10 := hs10.size
      clear k0 lk q0 q1 q2 lq r0 lr TC10
      have tc11 := fun w' [Fut w7 w'] [Fut w w'] => ptruthR_any (ns ++ [andN k k]) A7 c7 s As cs vs Av cv w' HI7.out hs hv hvl
      rw [R4] at tc11
      unfold Sch.val at tc11
      simp only [List.length_append, List.length_cons, List.length_nil, Nat.zero_add] at tc11
      have TC11 := hide tc11; clear tc11
      have k0 := At.z1 (HN7.out.fut (w' := w10)).at0; have lk : w7.heap.size < w10.heap.size := by omega
      obtain ⟨q0, q1, q2⟩ := At.z3 (HSW.out.fut (w' := w10)).at0; have lq : w.heap.size + 1 < w10.heap.size := by omega
      have r0 := At.z1 (HRW.out.fut (w' := w10)).at0; have lr : w.heap.size + 1 + 1 < w10.heap.size := by omega
      go_wp2_with fail
      refine (TC11.out _).mono ?_
      rintro e w11 ⟨rfl, hs11⟩
      have z11 := hs11.size
      clear k0 lk q0 q1 q2 lq r0 lr TC11
      have htt : (t != t) = false := by simp
      rcases HF.out with ⟨f1, f2, f3⟩ | ⟨f1, f2, f3⟩
      all_goals
        go_wp2_with (go_at_call 20; refine (numv_any _ _).mono ?_; rintro e w' ⟨rfl, rfl⟩)
        go_ret
        exact ⟨rfl, Step.of⟩
    · have hk' : ((ns.length : Int) == 0) = true ∨ ((ns.length : Int) == 0) = false ∧ (18 : Int) < (ns.length : Int) := by
        by_cases h0 : ns.length = 0
        · exact .inl (by simp [h0])
        · exact .inr ⟨beq_eq_false_iff_ne.2 (by omega), by omega⟩
      subst hd
      clear hk
      rcases hk' with h1 | ⟨h1, h2⟩
      all_goals
        go_wp2_with (go_at_call 20; refine (numv_any _ _).mono ?_; rintro e w' ⟨rfl, rfl⟩)
        go_ret
        exact ⟨rfl, Step.of⟩
  · have e1 : (d != 0) = true := by simpa using hd
    have e2 : (t == 0) = true := by simpa using truthR_fst HT.out hd
    clear hd
    go_wp2_with (go_at_call 20; refine (numv_any _ _).mono ?_; rintro e w' ⟨rfl, rfl⟩)
    go_ret
    exact ⟨rfl, Step.of⟩
end Go.Proofs.YtcgpfllkbflbhaaDoor
