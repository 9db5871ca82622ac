/-
  The law Schemas answers true: the program's functions on schemas answer as the document's, and what is handed in stays.
-/
import Derived.Test.YtfojdjmeefglcaaDoorPg
import Derived.Test.YtfojdjmeefglcaaDoorSwCol
import Derived.Deep.RegionHeld3
import Derived.Deep.Cut
namespace Go.Proofs.YtfojdjmeefglcaaDoor
open Go.RowKit

theorem Step.held {W w' : World} (h : Below W.heap.size W w') : Step W w' ∧ (∀ b o, b < W.heap.size → w'.cell? ⟨b, o, none⟩ = W.cell? ⟨b, o, none⟩) := ⟨⟨h⟩, (bcell h).1⟩
theorem num_st (n : Int) (w : World) : Calls Tryd.prog 22 #[.int .i64 n] w fun e w' => e = .returned (.int .i64 n) ∧ Step w w' := (num_any n w).mono fun _ _ h => ⟨h.1, h.2 ▸ Step.of⟩

set_option maxRecDepth 100000 in
set_option maxHeartbeats 8000000 in
theorem schemas_any (s : Sch) (A : Option Addr) (cap : Nat) (nm nw : ByteArray) (k : Int) (ns : List ByteArray) (An : Option Addr) (cn : Nat) (ks : List Int) (Ak : Option Addr) (ck : Nat) (w : World)
    (h : SchIn w s A cap) (hnm : nm.size ≤ 9223372036854775807) (hnw : nw.size ≤ 9223372036854775807) (hN : SlAt w w.heap.size 1 An (strCells ns)) (hK : SlAt w w.heap.size 1 Ak (intCells ks)) (hns : (ns.length + 2) * 32 ≤ 140737488355328) (hne : ∀ n ∈ ns, n.size ≤ 9223372036854775807) :
    Calls Tryd.prog 3 #[s.val A cap, .string nm, .string nw, .int .i64 k, .slice An ns.length cn, .slice Ak ks.length ck] w fun e w' => e = .returned (.bool true) ∧ Step w w' := by
  unfold Sch.val
  have HNE := hide hne; clear hne
  have Hs := hide (Blk.new w [.int .i64 s.id, .slice A s.cols.length cap, .int .i64 s.next] 24)
  go_enter Tryd.func3, Tryd.ntmps3
  go_wp2_with fail
  refine (lendSchema_any s A cap _ h).mono ?_
  rintro e w1 ⟨A1, v1, rfl, hx, hs_w1⟩
  unfold Sch.val
  have Hx := hide (Blk.new w1 [.int .i64 s.id, .slice A1 s.cols.length v1, .int .i64 s.next] 24)
  obtain ⟨r1, hr1⟩ : ∃ r, addR s nm k = r := ⟨_, rfl⟩
  obtain ⟨r2, hr2⟩ : ∃ r, dropR s nm = r := ⟨_, rfl⟩
  obtain ⟨r3, hr3⟩ : ∃ r, renameR s nm nw = r := ⟨_, rfl⟩
  obtain ⟨r4, hr4⟩ : ∃ r, newR ns ks = r := ⟨_, rfl⟩
  have P1 := fun w' [Fut w1 w'] => padd s A1 v1 nm k w' hx.sin hnm
  have Q1 := fun w' [Fut w w'] => qadd s A cap nm k w' h
  have P2 := fun w' [Fut w1 w'] => pdrop s A1 v1 nm w' hx.sin
  have Q2 := fun w' [Fut w w'] => qdrop s A cap nm w' h
  have P3 := fun w' [Fut w1 w'] => prename s A1 v1 nm nw w' hx.sin hnw
  have Q3 := fun w' [Fut w w'] => qrename s A cap nm nw w' h
  have P4 := fun w' [Fut w w'] => pnew (wn := w) (wk := w) ns ks An Ak cn ck w' hN hK (by omega) HNE.out
  have Q4 := fun w' [Fut w w'] => qnew (wn := w) (wk := w) ns ks An Ak cn ck w' hN hK hns HNE.out
  rw [hr1] at P1 Q1; rw [hr2] at P2 Q2; rw [hr3] at P3 Q3; rw [hr4] at P4 Q4
  have HP1 := hide P1; clear P1; have HQ1 := hide Q1; clear Q1
  have HP2 := hide P2; clear P2; have HQ2 := hide Q2; clear Q2
  have HP3 := hide P3; clear P3; have HQ3 := hide Q3; clear Q3
  have HP4 := hide P4; clear P4; have HQ4 := hide Q4; clear Q4
  clear hr1 hr2 hr3 hr4
  go_wp2_with fail
  refine (HP1.out _).mono ?_
  intro e w2 hr2
  obtain ⟨A2, v2, rfl, hi2, ho2, hs_w2⟩ := hr2
  have Ha := hide (Blk.new w2 [.int .i64 r1.1.id, .slice A2 r1.1.cols.length v2, .int .i64 r1.1.next] 24); have HO2 := hide ho2; clear ho2
  obtain ⟨s0, s1, s2⟩ := At.z3 ((Hs.out.fut (w' := w2)).at0); have ls := (Hs.out.fut (w' := w2)).lt
  go_wp2_with fail
  clear s0 s1 s2 ls
  refine (HQ1.out _).mono ?_
  intro e w3 hr3
  obtain ⟨A3, v3, rfl, hi3, ho3, hs_w3⟩ := hr3
  have Hb := hide (Blk.new w3 [.int .i64 r1.1.id, .slice A3 r1.1.cols.length v3, .int .i64 r1.1.next] 24); have HO3 := hide ho3; clear ho3
  obtain ⟨x0, x1, x2⟩ := At.z3 ((Hx.out.fut (w' := w3)).at0); have lx := (Hx.out.fut (w' := w3)).lt
  go_wp2_with fail
  clear x0 x1 x2 lx
  refine (HP2.out _).mono ?_
  intro e w4 hr4
  obtain ⟨A4, v4, rfl, hi4, ho4, hs_w4⟩ := hr4
  have Hc := hide (Blk.new w4 [.int .i64 r2.1.id, .slice A4 r2.1.cols.length v4, .int .i64 r2.1.next] 24); have HO4 := hide ho4; clear ho4
  obtain ⟨s0, s1, s2⟩ := At.z3 ((Hs.out.fut (w' := w4)).at0); have ls := (Hs.out.fut (w' := w4)).lt
  go_wp2_with fail
  clear s0 s1 s2 ls
  refine (HQ2.out _).mono ?_
  intro e w5 hr5
  obtain ⟨A5, v5, rfl, hi5, ho5, hs_w5⟩ := hr5
  have Hd := hide (Blk.new w5 [.int .i64 r2.1.id, .slice A5 r2.1.cols.length v5, .int .i64 r2.1.next] 24); have HO5 := hide ho5; clear ho5
  obtain ⟨x0, x1, x2⟩ := At.z3 ((Hx.out.fut (w' := w5)).at0); have lx := (Hx.out.fut (w' := w5)).lt
  go_wp2_with fail
  clear x0 x1 x2 lx
  refine (HP3.out _).mono ?_
  intro e w6 hr6
  obtain ⟨A6, v6, rfl, hi6, ho6, hs_w6⟩ := hr6
  have Hi := hide (Blk.new w6 [.int .i64 r3.1.id, .slice A6 r3.1.cols.length v6, .int .i64 r3.1.next] 24); have HO6 := hide ho6; clear ho6
  obtain ⟨s0, s1, s2⟩ := At.z3 ((Hs.out.fut (w' := w6)).at0); have ls := (Hs.out.fut (w' := w6)).lt
  go_wp2_with fail
  clear s0 s1 s2 ls
  refine (HQ3.out _).mono ?_
  intro e w7 hr7
  obtain ⟨A7, v7, rfl, hi7, ho7, hs_w7⟩ := hr7
  have Hk := hide (Blk.new w7 [.int .i64 r3.1.id, .slice A7 r3.1.cols.length v7, .int .i64 r3.1.next] 24); have HO7 := hide ho7; clear ho7
  go_upto_region 8 with (fail)
  obtain ⟨W8, hW⟩ : ∃ W, W = w7.alloc (.cells #[.int .i64 r3.1.id, .slice A7 r3.1.cols.length v7, .int .i64 r3.1.next] 24) := ⟨_, rfl⟩
  have S8 : Step w7 W8 := by rw [hW]; exact Step.of
  have Hk' : Hid (Blk W8 w7.heap.size 24 [.int .i64 r3.1.id, .slice A7 r3.1.cols.length v7, .int .i64 r3.1.next]) := by rw [hW]; exact Hk.out
  clear Hk; have Hk := Hk'; clear Hk'
  rw [← hW]; clear hW
  obtain ⟨s0, s1, s2⟩ := At.z3 ((Hs.out.fut (w' := W8)).at0); have ls := (Hs.out.fut (w' := W8)).lt
  obtain ⟨x0, x1, x2⟩ := At.z3 ((Hx.out.fut (w' := W8)).at0); have lx := (Hx.out.fut (w' := W8)).lt
  obtain ⟨a0, a1, a2⟩ := At.z3 ((Ha.out.fut (w' := W8)).at0); have la := (Ha.out.fut (w' := W8)).lt
  obtain ⟨b0, b1, b2⟩ := At.z3 ((Hb.out.fut (w' := W8)).at0); have lb := (Hb.out.fut (w' := W8)).lt
  obtain ⟨c0, c1, c2⟩ := At.z3 ((Hc.out.fut (w' := W8)).at0); have lc := (Hc.out.fut (w' := W8)).lt
  obtain ⟨d0, d1, d2⟩ := At.z3 ((Hd.out.fut (w' := W8)).at0); have ld := (Hd.out.fut (w' := W8)).lt
  obtain ⟨i0, i1, i2⟩ := At.z3 ((Hi.out.fut (w' := W8)).at0); have li := (Hi.out.fut (w' := W8)).lt
  obtain ⟨k0, k1, k2⟩ := At.z3 ((Hk.out.fut (w' := W8)).at0); have lk := (Hk.out.fut (w' := W8)).lt
  have C1 := hide (fun w' (S : Step W8 w') => sameSchema_any r1.1 A2 A3 v2 v3 w' hi2 hi3)
  have C2 := hide (fun w' (S : Step W8 w') => sameSchema_any r2.1 A4 A5 v4 v5 w' hi4 hi5)
  have C3 := hide (fun w' (S : Step W8 w') => sameSchema_any r3.1 A6 A7 v6 v7 w' hi6 hi7)
  have C4 := hide (fun w' (S : Step W8 w') => pmay s A1 v1 w' hx.sin)
  have C5 := hide (fun w' (S : Step W8 w') => rmay_any s A cap w' h)
  have C6 := hide (fun w' (S : Step W8 w') => keptSchema_any s A1 A v1 cap w' hx h)
  unfold Sch.val at C1 C2 C3 C4 C5 C6
  go_cut [118] from 72 (fun t wx => t = .bool false ∧ Step W8 wx)
  case first =>
    go_region_held3 (fun w' => Step W8 w' ∧ (∀ b o, b < W8.heap.size → w'.cell? ⟨b, o, none⟩ = W8.cell? ⟨b, o, none⟩))
      (first | exact Step.held (fut _ _))
      (first
        | (go_at_call 22; refine (num_st _ _).mono ?_; rintro e w' ⟨rfl, hq⟩)
        | (go_at_call 21; go_split_ands; first | ((with_reducible refine (C1.out _ (by assumption)).mono ?_); rintro e w' ⟨rfl, hq⟩) | ((with_reducible refine (C2.out _ (by assumption)).mono ?_); rintro e w' ⟨rfl, hq⟩) | ((with_reducible refine (C3.out _ (by assumption)).mono ?_); rintro e w' ⟨rfl, hq⟩))
        | (go_at_call 23; go_split_ands; (with_reducible refine (C4.out _ (by assumption)).mono ?_); rintro e w' ⟨rfl, hq⟩)
        | (go_at_call 24; go_split_ands; (with_reducible refine (C5.out _ (by assumption)).mono ?_); rintro e w' ⟨rfl, hq⟩)
        | (go_at_call 25; go_split_ands; (with_reducible refine (C6.out _ (by assumption)).mono ?_); rintro e w' ⟨rfl, hq⟩))
    go_wp2_with fail
    go_meet
    case rel =>
      refine ⟨rfl, ?_⟩
      go_split_ands
      assumption
  case rest =>
    obtain ⟨rfl, S9⟩ := hcut
    clear C1 C2 C3 C4 C5 C6 HP1 HP2 HP3 HQ1 HQ2 HQ3
    clear s0 s1 s2 ls x0 x1 x2 lx a0 a1 a2 la b0 b1 b2 lb c0 c1 c2 lc d0 d1 d2 ld i0 i1 i2 li k0 k1 k2 lk
    have z2 := hs_w2.size; have z3 := hs_w3.size; have z4 := hs_w4.size; have z5 := hs_w5.size; have z6 := hs_w6.size; have z7 := hs_w7.size
    simp only [hsz] at z2 z3 z4 z5 z6 z7
    have HS9 := hide S9
    have O2c := HO2.out.fut (w' := wc); have O4c := HO4.out.fut (w' := wc); have O6c := HO6.out.fut (w' := wc)
    have Ha_ := Ha.out.fut (w' := wc); have Hc_ := Hc.out.fut (w' := wc); have Hi_ := Hi.out.fut (w' := wc)
    have y2 := HO2.out.lt; have y4 := HO4.out.lt; have y6 := HO6.out.lt
    simp only [hsz] at y2 y4 y6
    have Y2 := hide y2; have Y4 := hide y4; have Y6 := hide y6; clear y2 y4 y6
    have q1 : r1.1.cols.length ≤ 4611686018427387904 := by have := hi2.len; omega
    have q2 : r2.1.cols.length ≤ 4611686018427387904 := by have := hi4.len; omega
    have q3 : r3.1.cols.length ≤ 4611686018427387904 := by have := hi6.len; omega
    obtain ⟨a0, a1, a2⟩ := At.z3 Ha_.at0; have la := Ha_.lt
    have KO2 := hide O2c; have KO4 := hide O4c; have KO6 := hide O6c; have KHc := hide Hc_; have KHi := hide Hi_; clear O2c O4c O6c Ha_ Hc_ Hi_
    go_wp2_with fail
    clear a0 a1 a2 la
    refine (spoilColumns_any r1.1.cols A2 v2 _ _ KO2.out q1).mono ?_
    rintro e w9 ⟨rfl, hg9⟩
    have S9' : Step (w1.alloc (.cells #[.int .i64 s.id, .slice A1 s.cols.length v1, .int .i64 s.next] 24)) w9 := ⟨(fut (w1.alloc (.cells #[.int .i64 s.id, .slice A1 s.cols.length v1, .int .i64 s.next] 24)) wc).trans (below_of_grown KO2.out hg9 (by have := (fut (w1.alloc (.cells #[.int .i64 s.id, .slice A1 s.cols.length v1, .int .i64 s.next] 24)) wc).size; exact this))⟩
    have Hc9 := KHc.out.grown hg9 (KO2.out.ne_ KHc.out (by decide))
    have Hi9 := KHi.out.grown hg9 (KO2.out.ne_ KHi.out (by decide))
    have O49 := KO4.out.grown_other hg9 (by intro g hg e; have h1 := Y2.out g e; have h2 := Y4.out g hg; omega)
    have O69 := KO6.out.grown_other hg9 (by intro g hg e; have h1 := Y2.out g e; have h2 := Y6.out g hg; omega)
    clear KO2 KO4 KO6 KHc KHi
    have KO4 := hide O49; have KO6 := hide O69; have KHi := hide Hi9; have HG := hide hg9; clear O49 O69 Hi9 hg9
    obtain ⟨a0, a1, a2⟩ := At.z3 Hc9.at0; have la := Hc9.lt
    clear Hc9
    go_wp2_with fail
    clear a0 a1 a2 la
    refine (spoilColumns_any r2.1.cols A4 v4 _ _ KO4.out q2).mono ?_
    rintro e w10 ⟨rfl, hg10⟩
    have S10 : Step (w1.alloc (.cells #[.int .i64 s.id, .slice A1 s.cols.length v1, .int .i64 s.next] 24)) w10 := ⟨(fut (w1.alloc (.cells #[.int .i64 s.id, .slice A1 s.cols.length v1, .int .i64 s.next] 24)) w9).trans ((below_of_grown KO4.out hg10 (by simp only [hsz]; have := S9'.size; have := hs_w3.size; have := HG.out.size; have := HS9.out.size; have := S8.size; omega)).mono (by simp only [hsz]; omega))⟩
    have Hi10 := KHi.out.grown hg10 (KO4.out.ne_ KHi.out (by decide))
    have O610 := KO6.out.grown_other hg10 (by intro g hg e; have h1 := Y4.out g e; have h2 := Y6.out g hg; omega)
    clear KO4 KO6 KHi
    have KO6 := hide O610; have HG10 := hide hg10; clear O610 hg10
    obtain ⟨a0, a1, a2⟩ := At.z3 Hi10.at0; have la := Hi10.lt
    clear Hi10
    go_wp2_with fail
    clear a0 a1 a2 la
    refine (spoilColumns_any r3.1.cols A6 v6 _ _ KO6.out q3).mono ?_
    rintro e w11 ⟨rfl, hg11⟩
    have S11 : Step (w1.alloc (.cells #[.int .i64 s.id, .slice A1 s.cols.length v1, .int .i64 s.next] 24)) w11 := ⟨(fut (w1.alloc (.cells #[.int .i64 s.id, .slice A1 s.cols.length v1, .int .i64 s.next] 24)) w10).trans ((below_of_grown KO6.out hg11 (by simp only [hsz]; have := HG10.out.size; have := HG.out.size; have := HS9.out.size; have := S8.size; omega)).mono (by simp only [hsz]; omega))⟩
    clear KO6 hg11
    go_wp2_with fail
    refine (HP4.out _).mono ?_
    intro e w12 hr12
    obtain ⟨A12, v12, rfl, hi12, ho12, hs_w12⟩ := hr12
    have Ho := hide (Blk.new w12 [.int .i64 r4.1.id, .slice A12 r4.1.cols.length v12, .int .i64 r4.1.next] 24); clear ho12
    go_wp2_with fail
    refine (HQ4.out _).mono ?_
    intro e w13 hr13
    obtain ⟨A13, v13, rfl, hi13, ho13, hs_w13⟩ := hr13
    have Hq := hide (Blk.new w13 [.int .i64 r4.1.id, .slice A13 r4.1.cols.length v13, .int .i64 r4.1.next] 24); clear ho13
    go_upto_region 15 with (fail)
    obtain ⟨W15, hW⟩ : ∃ W, W = w13.alloc (.cells #[.int .i64 r4.1.id, .slice A13 r4.1.cols.length v13, .int .i64 r4.1.next] 24) := ⟨_, rfl⟩
    have S15 : Step w13 W15 := by rw [hW]; exact Step.of
    have Hq' : Hid (Blk W15 w13.heap.size 24 [.int .i64 r4.1.id, .slice A13 r4.1.cols.length v13, .int .i64 r4.1.next]) := by rw [hW]; exact Hq.out
    clear Hq; have Hq := Hq'; clear Hq'
    rw [← hW]; clear hW

    obtain ⟨s0, s1, s2⟩ := At.z3 ((Hs.out.fut (w' := W15)).at0); have ls := (Hs.out.fut (w' := W15)).lt
    obtain ⟨x0, x1, x2⟩ := At.z3 ((Hx.out.fut (w' := W15)).at0); have lx := (Hx.out.fut (w' := W15)).lt
    obtain ⟨o0, o1, o2⟩ := At.z3 ((Ho.out.fut (w' := W15)).at0); have lo := (Ho.out.fut (w' := W15)).lt
    obtain ⟨q0, q1, q2⟩ := At.z3 ((Hq.out.fut (w' := W15)).at0); have lq := (Hq.out.fut (w' := W15)).lt
    have C1 := hide (fun w' (S : Step W15 w') => sameSchema_any r4.1 A12 A13 v12 v13 w' hi12 hi13)
    have C4 := hide (fun w' (S : Step W15 w') => pfind s A1 v1 nm w' hx.sin)
    have C5 := hide (fun w' (S : Step W15 w') => rfind_any s A cap nm w' h)
    have C6 := hide (fun w' (S : Step W15 w') => keptSchema_any s A1 A v1 cap w' hx h)
    unfold Sch.val at C1 C4 C5 C6
    go_region_held3 (fun w' => Step W15 w' ∧ (∀ b o, b < W15.heap.size → w'.cell? ⟨b, o, none⟩ = W15.cell? ⟨b, o, none⟩))
      (first | exact Step.held (fut _ _))
      (first
        | (go_at_call 22; refine (num_st _ _).mono ?_; rintro e w' ⟨rfl, hq⟩)
        | (go_at_call 31; refine (pawake _).mono ?_; rintro e w' ⟨rfl, hq⟩)
        | (go_at_call 21; go_split_ands; (with_reducible refine (C1.out _ (by assumption)).mono ?_); rintro e w' ⟨rfl, hq⟩)
        | (go_at_call 29; go_split_ands; (with_reducible refine (C4.out _ (by assumption)).mono ?_); rintro e w' ⟨rfl, hq⟩)
        | (go_at_call 30; go_split_ands; (with_reducible refine (C5.out _ (by assumption)).mono ?_); rintro e w' ⟨rfl, hq⟩)
        | (go_at_call 25; go_split_ands; (with_reducible refine (C6.out _ (by assumption)).mono ?_); rintro e w' ⟨rfl, hq⟩))
    go_split_ands
    go_wp2_with fail
    go_ret
    exact ⟨rfl, ⟨(fut w W15).trans ((by assumption : Step W15 _).below.mono (fut w W15).size)⟩⟩
end Go.Proofs.YtfojdjmeefglcaaDoor
