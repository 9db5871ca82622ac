/-
  Texts put together: Dn, D5, D6, Dq.
-/
import Derived.Test.YtnphokhehacfnaaGreatDoorCz01
import Derived.Test.YtnphokhehacfnaaGreatDoorCz04
import Derived.Test.YtnphokhehacfnaaGreatDoorCz10
import Derived.Test.YtnphokhehacfnaaGreatDoorCz14
import Derived.Test.YtnphokhehacfnaaGreatDoorCz15
import Derived.Test.YtnphokhehacfnaaGreatDoorCz18
import Derived.Test.YtnphokhehacfnaaGreatDoorCz22
namespace Go.Proofs.YtnphokhehacfnaaGreatDoor
open Go.RowKit

set_option maxRecDepth 100000 in
set_option maxHeartbeats 4000000 in
theorem run_add {w1 : World} (g D T O : Nat) (t : TbA) (o : OpA) (w : World) (h : Doer w g D T O t o) (ho : OpIn w1 o) [f1 : Fut w1 w] (hf : TbFine t) (hg : g ≤ w.heap.size) (hn12 : t.s.cols.length ≤ 12) (hn4 : t.rs.length ≤ 4096) (hk : o.kind = 0) :
    Calls Tryz.prog 44 #[.pointer (some ⟨D, 0, none⟩)] w fun e w' => RunR g T w (growP t.tb o.op) e w' := by
  have CC := add_anyD g D T O t o w h ho hf hg hn12 hn4
  have HD := hide h
  obtain ⟨d0, d1⟩ := At.z2 (HD.out.d.fut (w' := w)).at0
  have ld := (HD.out.d.fut (w' := w)).lt
  obtain ⟨t0, t1, t2, t3, t4, t5⟩ := At.z6 (HD.out.tb.fut (w' := w)).at0
  have lt_ := (HD.out.tb.fut (w' := w)).lt
  have ft_ := (HD.out.tb.fut (w' := w)).free
  obtain ⟨o0, o1, o2, o3, o4, o5, o6, o7, o8, o9, o10, o11, o12, o13, o14, o15⟩ := At.zOp (HD.out.op.fut (w' := w)).at0
  have lo := (HD.out.op.fut (w' := w)).lt
  unfold TbA.cells at *
  rw [hk] at o0
  clear hk
  cases hR : growP t.tb o.op with
  | error c =>
    rw [hR] at CC
    have CC := hide CC
    clear hR
    go_enter Tryz.func44, Tryz.ntmps44
    go_wp2_with (go_at_call 87; (with_reducible refine CC.out.mono ?_); rintro e w3 ⟨hmt, rfl⟩; have HMT := hide hmt; clear hmt)
    exact ⟨rfl, HMT.out, rfl⟩
  | ok u =>
    rw [hR] at CC
    have CC := hide CC
    clear hR
    go_enter Tryz.func44, Tryz.ntmps44
    go_wp2_with (go_at_call 87; (with_reducible refine CC.out.mono ?_); rintro e w3 ⟨hmt, rfl, t2, ht2, hb2, ho2⟩; have HMT := hide hmt; have HT2 := hide ht2; have HB2 := hide hb2; have HO2 := hide ho2; clear hmt ht2 hb2 ho2)
    go_end0
    exact ⟨HMT.out, rfl, t2, HT2.out, HB2.out, HO2.out⟩
set_option maxRecDepth 100000 in
set_option maxHeartbeats 4000000 in
theorem drop_none (g D T O : Nat) (t : TbA) (o : OpA) (w : World) (h : Doer w g D T O t o) (hf : TbFine t) (hg : g ≤ w.heap.size) (hi : idx (named o.col) t.s.cols < 0) :
    Calls Tryz.prog 92 #[.pointer (some ⟨D, 0, none⟩)] w fun e w' => RunR g T w (.error 5) e w' := by
  have hsch := (h.own.r.tin hf).sch
  have HD := hide h
  obtain ⟨x, hx⟩ : ∃ x, idx (named o.col) t.s.cols = x := ⟨_, rfl⟩
  have FD : Hid (∀ (w' : World), Fut w w' → Calls Tryz.prog 125 #[.agg #[.int .i64 t.s.id, .slice t.As t.s.cols.length t.cs, .int .i64 t.s.next], .string o.col] w' fun e w'' => e = .returned (.int .i64 x) ∧ Step w' w'') := fun w' hq => by
    have := ((hsch.below hq.below).find o.col)
    rw [hx] at this
    exact this.mono fun e w'' h => ⟨h.1, ⟨h.2⟩⟩
  rw [hx] at hi
  clear h hsch hx
  obtain ⟨d0, d1⟩ := At.z2 (HD.out.d.fut (w' := w)).at0
  have ld := (HD.out.d.fut (w' := w)).lt
  obtain ⟨t0, t1, t2, t3, t4, t5⟩ := At.z6 (HD.out.tb.fut (w' := w)).at0
  have lt_ := (HD.out.tb.fut (w' := w)).lt
  have ft_ := (HD.out.tb.fut (w' := w)).free
  obtain ⟨o0, o1, o2, o3, o4, o5, o6, o7, o8, o9, o10, o11, o12, o13, o14, o15⟩ := At.zOp (HD.out.op.fut (w' := w)).at0
  have lo := (HD.out.op.fut (w' := w)).lt
  unfold TbA.cells at *
  have hxd : decide (x < 0) = true := decide_eq_true hi
  go_enter Tryz.func92, Tryz.ntmps92
  go_upto_region 0 with fail
  refine wp_region_held_drew (S := (fun w' => Step w w' ∧ (∀ b o, b < w.heap.size → w'.cell? ⟨b, o, none⟩ = w.cell? ⟨b, o, none⟩))) (by kernel_rfl) (by (try dsimp only); (first | exact ⟨hS1, hS2⟩ | exact ⟨Step.of, (bcell (fut _ _)).1⟩)) (fun hHeld => ?_)
  refine wT 0 5 (by assumption) ?_
  refine wT 7 12 (by assumption) ?_
  refine wT 1 6 (by assumption) ?_
  refine wT 8 13 (by assumption) ?_
  refine wT 2 7 (by assumption) ?_
  refine wT 9 14 (by assumption) ?_
  refine wT 3 8 (by assumption) ?_
  refine wT 10 15 (by assumption) ?_
  refine wT 4 9 (by assumption) ?_
  refine wT 11 16 (by assumption) ?_
  refine wT 5 10 (by assumption) ?_
  refine wT 12 17 (by assumption) ?_
  refine wT 6 11 (by assumption) ?_
  refine wT 13 18 (by assumption) ?_
  refine wpAnyH_ready (rs := [14]) (by kernel_rfl) (by simp) ?_
  refine AllReadyH.cons (o := ⟨some 19, _, _, _, _, _⟩) rfl (fun K hK => ?_) AllReadyH.nil
  obtain ⟨hS1, hS2⟩ := hHeld
  go_simp
  (go_at_call 125; (with_reducible refine (FD.out _ inferInstance).mono ?_); rintro e w3 ⟨rfl, hs3⟩)
  refine hK.out _ _ (by (try dsimp only); (first | exact ⟨hS1, hS2⟩ | exact ⟨Step.of, (bcell (fut _ _)).1⟩)) (fun hHeld => ?_)
  clear hK K
  (try simp only [Act.put, List.setIfInBounds_toArray, List.set_cons_zero, List.set_cons_succ])
  refine wT 15 2 (by assumption) ?_
  refine wpAnyH_done (by kernel_rfl) ?_ _
  go_wp2_with (go_at_call 122; (with_reducible refine (throw_yes _ _).mono ?_); rintro e w9 ⟨rfl, h9⟩; obtain rfl := h9.symm)
  exact ⟨rfl, Mt.step hg (fut w _), rfl⟩
set_option maxRecDepth 100000 in
set_option maxHeartbeats 4000000 in
theorem run_drop_none (g D T O : Nat) (t : TbA) (o : OpA) (w : World) (h : Doer w g D T O t o) (hf : TbFine t) (hg : g ≤ w.heap.size) (hi : idx (named o.col) t.s.cols < 0) (hk : o.kind = 5) :
    Calls Tryz.prog 44 #[.pointer (some ⟨D, 0, none⟩)] w fun e w' => RunR g T w (.error 5) e w' := by
  have CC := hide (drop_none g D T O t o w h hf hg hi)
  have HD := hide h
  obtain ⟨d0, d1⟩ := At.z2 (HD.out.d.fut (w' := w)).at0
  have ld := (HD.out.d.fut (w' := w)).lt
  obtain ⟨t0, t1, t2, t3, t4, t5⟩ := At.z6 (HD.out.tb.fut (w' := w)).at0
  have lt_ := (HD.out.tb.fut (w' := w)).lt
  have ft_ := (HD.out.tb.fut (w' := w)).free
  obtain ⟨o0, o1, o2, o3, o4, o5, o6, o7, o8, o9, o10, o11, o12, o13, o14, o15⟩ := At.zOp (HD.out.op.fut (w' := w)).at0
  have lo := (HD.out.op.fut (w' := w)).lt
  unfold TbA.cells at *
  rw [hk] at o0
  clear hk
  go_enter Tryz.func44, Tryz.ntmps44
  go_wp2_with (go_at_call 92; (with_reducible refine CC.out.mono ?_); rintro e w3 ⟨hmt, rfl⟩; have HMT := hide hmt; clear hmt)
  exact ⟨rfl, HMT.out, rfl⟩
theorem TbFine.of_tb {t t' : TbA} (h : TbFine t) (he : t'.tb = t.tb) : TbFine t' := by
  have h1 : t'.s = t.s := congrArg Tb.s he
  have h2 : t'.fs = t.fs := congrArg Tb.fs he
  have h3 : t'.rs.map RowA.vs = t.rs.map RowA.vs := congrArg Tb.rows he
  have h4 : t'.rs.length = t.rs.length := by have := congrArg List.length h3; simpa using this
  exact ⟨by rw [h1]; exact h.clen, by rw [h1]; exact h.names, by rw [h2]; exact h.flen, by rw [h4]; exact h.rlen, by rw [h3]; exact h.vals⟩
theorem tb_small {t t' : TbA} (h : tabB t.tb = true) (he : t'.tb = t.tb) : t'.s.cols.length ≤ 12 ∧ t'.rs.length ≤ 4096 := by
  have h1 : t'.s = t.s := congrArg Tb.s he
  have h3 : t'.rs.map RowA.vs = t.rs.map RowA.vs := congrArg Tb.rows he
  have h4 : t'.rs.length = t.rs.length := by have := congrArg List.length h3; simpa using this
  obtain ⟨hm, _, hl, _⟩ := tabB_iff.1 h
  have hc := (addR_inv hm).2.2.2.2
  refine ⟨by rw [h1]; exact hc, ?_⟩
  rw [h4]
  simpa [TbA.tb] using hl
theorem applyP_form {t : Tb} {o : Opp} (h : tabB t = false ∨ o.kind < 0 ∨ 8 < o.kind) : applyP t o = (t, 9) := by rw [applyP, if_pos h]
theorem applyP_run {t : Tb} {o : Opp} (h : tabB t = true) (h0 : ¬ o.kind < 0) (h8 : ¬ 8 < o.kind) : applyP t o = match runP t o with | .error c => (t, c) | .ok u => (u, 0) := by
  rw [applyP, if_neg (by rintro (hh | hh | hh); (rw [h] at hh; cases hh); exact h0 hh; exact h8 hh)]; cases runP t o <;> rfl
/-- Apply, by what run does. -/
theorem apply_by {w0 : World} (t : TbA) (o : OpA) (w : World) (hin : TbIn w0 t) [f0 : Fut w0 w] (h0 : ¬ o.kind < 0) (h8 : ¬ 8 < o.kind) (hce : ∀ c, runP t.tb o.op = .error c → c ≠ 0)
    (hrun : tabB t.tb = true → ∀ (g D T O : Nat) (t' : TbA) (w' : World), Fut w w' → Doer w' g D T O t' o → t'.tb = t.tb → g ≤ w'.heap.size → Calls Tryz.prog 44 #[.pointer (some ⟨D, 0, none⟩)] w' fun e w'' => RunR g T w' (runP t.tb o.op) e w'') :
    Calls Tryz.prog 13 #[t.val, .agg #[.int .i64 o.kind, .string o.txn, .slice o.Ac o.cols.length o.cc, .slice o.Ar o.rows.length o.cr, .slice o.An o.ns.length o.cn, .string o.col, .string o.name, .int .i64 o.ck, .int .i64 o.v.kind, .int .i64 o.v.i, .bool o.v.b, .string o.v.s, .slice o.Af o.fs.length o.cf, .int .i64 o.ver, .int .i64 o.time, .int .i64 o.agg]] w (ApplyR w (applyP t.tb o.op)) := by
  cases hm : tabB t.tb with
  | false =>
    rw [applyP_form (.inl hm)]
    exact apply_form t o w hin (.inl hm)
  | true =>
    rw [applyP_run hm h0 h8]
    have hr := hrun hm
    cases hR : runP t.tb o.op with
    | error c =>
      rw [hR] at hr
      exact apply_err t o w hin hm h0 h8 c (hce c hR) hr
    | ok u =>
      rw [hR] at hr
      exact apply_ok t o w hin hm h0 h8 u hr
theorem grow_err {t : Tb} {o : Opp} {c : Int} (h : growP t o = .error c) : c ≠ 0 := by
  rw [grow_eq] at h
  split at h
  · injection h with h; omega
  · split at h
    · injection h with h; omega
    · unfold growC at h
      split at h
      · injection h with h; omega
      · split at h
        · injection h with h; omega
        · split at h
          · injection h with h; omega
          · cases h
theorem take_err {t : Tb} {o : Opp} {c : Int} (h : takeP t o = .error c) : c ≠ 0 := by
  unfold takeP at h
  split at h
  · injection h with h; omega
  · unfold yesP at h
    split at h
    · rename_i hq
      split at hq
      · injection hq with hq; injection h with h; omega
      · cases hq
    · cases h
theorem apply_add {w0 w1 : World} (t : TbA) (o : OpA) (w : World) (hin : TbIn w0 t) (ho : OpIn w1 o) [f0 : Fut w0 w] [f1 : Fut w1 w] (hk : o.kind = 0) :
    Calls Tryz.prog 13 #[t.val, .agg #[.int .i64 o.kind, .string o.txn, .slice o.Ac o.cols.length o.cc, .slice o.Ar o.rows.length o.cr, .slice o.An o.ns.length o.cn, .string o.col, .string o.name, .int .i64 o.ck, .int .i64 o.v.kind, .int .i64 o.v.i, .bool o.v.b, .string o.v.s, .slice o.Af o.fs.length o.cf, .int .i64 o.ver, .int .i64 o.time, .int .i64 o.agg]] w (ApplyR w (applyP t.tb o.op)) := by
  have hr : runP t.tb o.op = growP t.tb o.op := by rw [runP, if_pos (show o.op.kind = 0 from hk)]
  refine apply_by t o w hin (by omega) (by omega) (fun c hc => grow_err (by rw [← hr]; exact hc)) fun hm g D T O t' w' hq hd he hg => ?_
  haveI := Fut.tr f1 hq
  rw [hr, ← he]
  exact run_add g D T O t' o w' hd ho (hin.fine.of_tb he) hg (tb_small hm he).1 (tb_small hm he).2 hk
theorem apply_drop_none {w0 : World} (t : TbA) (o : OpA) (w : World) (hin : TbIn w0 t) [f0 : Fut w0 w] (hk : o.kind = 5) (hi : idx (named o.col) t.s.cols < 0) :
    Calls Tryz.prog 13 #[t.val, .agg #[.int .i64 o.kind, .string o.txn, .slice o.Ac o.cols.length o.cc, .slice o.Ar o.rows.length o.cr, .slice o.An o.ns.length o.cn, .string o.col, .string o.name, .int .i64 o.ck, .int .i64 o.v.kind, .int .i64 o.v.i, .bool o.v.b, .string o.v.s, .slice o.Af o.fs.length o.cf, .int .i64 o.ver, .int .i64 o.time, .int .i64 o.agg]] w (ApplyR w (applyP t.tb o.op)) := by
  have hr : runP t.tb o.op = .error 5 := by
    rw [runP, if_neg (show ¬ o.op.kind = 0 by show ¬ o.kind = 0; omega), if_neg (show ¬ (o.op.kind = 1 ∨ o.op.kind = 2) by show ¬ (o.kind = 1 ∨ o.kind = 2); omega), if_neg (show ¬ o.op.kind = 3 by show ¬ o.kind = 3; omega), if_neg (show ¬ o.op.kind = 4 by show ¬ o.kind = 4; omega), if_pos (show o.op.kind = 5 from hk), dropP, if_pos (show idx (named o.op.col) t.tb.s.cols < 0 from hi)]
  refine apply_by t o w hin (by omega) (by omega) (fun c hc => by rw [hr] at hc; injection hc with hc; omega) fun hm g D T O t' w' hq hd he hg => ?_
  rw [hr]
  have h1 : t'.s = t.s := congrArg Tb.s he
  exact run_drop_none g D T O t' o w' hd (hin.fine.of_tb he) hg (by rw [h1]; exact hi) hk
end Go.Proofs.YtnphokhehacfnaaGreatDoor

namespace Go.Proofs.YtnphokhehacfnaaGreatDoor
open Go.RowKit

end Go.Proofs.YtnphokhehacfnaaGreatDoor

namespace Go.Proofs.YtnphokhehacfnaaGreatDoor
open Go.RowKit

set_option maxRecDepth 100000 in
set_option maxHeartbeats 4000000 in
theorem mnew_yes (s : Sch) (A : Option Addr) (cap : Nat) (w : World) (hs : SchIn w s A cap) (hm : mayB s = true) :
    Calls Tryz.prog 27 #[.agg #[.int .i64 s.id, .slice A s.cols.length cap, .int .i64 s.next]] w fun e w' => ∃ (A' : Option Addr) (cap' : Nat), e = .returned (.tuple #[.agg #[.int .i64 s.id, .slice A' s.cols.length cap', .int .i64 s.next, .int .i64 0, .slice none 0 0, .slice none 0 0], .int .i64 0]) ∧ s.cols.length ≤ cap' ∧ Own w' w.heap.size 90 3 (.slice A' s.cols.length cap') (s.cols.map Col.cells) ∧ Step w w' := by
  have CL := hide (fun (w' : World) (hf : Fut w w') => cloneC_any A cap s.cols w' hs.at_.fut (by have := hs.len; omega))
  have MY : Hid (∀ w' (hf : Fut w w'), Calls Tryz.prog 54 #[.agg #[.int .i64 s.id, .slice A s.cols.length cap, .int .i64 s.next]] w' fun e w'' => e = .returned (.bool true) ∧ Step w' w'') := fun w' hf => by have h := pmay s A cap w' hs; rw [hm] at h; exact h
  obtain ⟨W1, hW1⟩ : ∃ x : World, x = w.alloc (.cells #[.int .i64 s.id, .slice A s.cols.length cap, .int .i64 s.next] 24) := ⟨_, rfl⟩
  have HB1 : Hid (Blk W1 w.heap.size 24 [.int .i64 s.id, .slice A s.cols.length cap, .int .i64 s.next]) := by rw [hW1]; exact Blk.new w _ _
  have SW1 : Step w W1 := by rw [hW1]; exact Step.of
  have hz1 : W1.heap.size = w.heap.size + 1 := by rw [hW1]; simp
  have HZ1 := hide hz1
  clear hz1
  have lz := HB1.out.lt
  clear hm
  go_enter Tryz.func27, Tryz.ntmps27
  go_upto_region 1 with fail
  rw [← hW1]
  clear hW1
  obtain ⟨W2, hW2⟩ : ∃ x : World, x = W1.alloc (.cells #[.int .i64 0, .slice none 0 0, .int .i64 0, .int .i64 0, .slice none 0 0, .slice none 0 0] 30) := ⟨_, rfl⟩
  have HB2 : Hid (Blk W2 (w.heap.size + 1) 30 [.int .i64 0, .slice none 0 0, .int .i64 0, .int .i64 0, .slice none 0 0, .slice none 0 0]) := by rw [hW2]; exact Blk.new_at HZ1.out _ _
  have SW2 : Step W1 W2 := by rw [hW2]; exact Step.of
  rw [← hW2]
  clear hW2
  obtain ⟨x0, x1, x2⟩ := At.z3 (HB1.out.fut (w' := W2)).at0
  have lx := (HB1.out.fut (w' := W2)).lt
  go_upto_region 3 with (go_at_call 54; (with_reducible refine (MY.out _ inferInstance).mono ?_); rintro e w3 ⟨rfl, hs3⟩; clear x0 x1 x2 lx)
  obtain ⟨x0, x1, x2⟩ := At.z3 (HB1.out.fut (w' := w3)).at0
  have lx := (HB1.out.fut (w' := w3)).lt
  have hw3 : w.heap.size ≤ w3.heap.size := (fut w w3).size
  go_upto_region 4 with (go_at_call 71; (with_reducible refine (CL.out _ inferInstance).mono ?_); rintro e w4 ⟨A4, c4, rfl, hc4, hm4, ho4, hb4⟩; have hs4 : Step w3 w4 := ⟨hb4⟩; have HO4 := hide ho4; clear ho4 hb4 x0 x1 x2 lx; obtain ⟨x0, x1, x2⟩ := At.z3 (HB1.out.fut (w' := w4)).at0; have lx := (HB1.out.fut (w' := w4)).lt; have fx := (HB1.out.fut (w' := w4)).free)
  have HB4 := hide ((HB1.out.fut (w' := w4)).set_ 1 (.slice A4 s.cols.length c4))
  have HC4 := hide ((HB2.out.fut (w' := w4)).far (p := ⟨w.heap.size, 1, none⟩) (by simp) (.slice A4 s.cols.length c4))
  have HO5 := hide (HO4.out.set_other (HB1.out.fut (w' := w4)) (by decide) 1 (.slice A4 s.cols.length c4))
  have hb4 : Below w.heap.size w (w4.setCell ⟨w.heap.size, 1, none⟩ (.slice A4 s.cols.length c4)) := (fut w w4).setCell (p := ⟨w.heap.size, 1, none⟩) (by simp) _
  obtain ⟨X, hX⟩ : ∃ x : World, x = w4.setCell ⟨w.heap.size, 1, none⟩ (.slice A4 s.cols.length c4) := ⟨_, rfl⟩
  rw [← hX] at HB4 HC4 HO5 hb4
  rw [← hX]
  clear hX x0 x1 x2 lx fx HO4
  have hsX : Step w X := ⟨hb4⟩
  obtain ⟨x0, x1, x2⟩ := At.z3 HB4.out.at0
  have lx := HB4.out.lt
  obtain ⟨z0, z1, z2, z3, z4, z5⟩ := At.z6 HC4.out.at0
  have ly := HC4.out.lt
  have fy := HC4.out.free
  go_wp2_with fail
  have o0 := HO5.out.set_other HC4.out (by decide) 0 (.int .i64 s.id)
  have c0 := HC4.out.set_ 0 (.int .i64 s.id)
  have o1 := o0.set_other c0 (by decide) 1 (.slice A4 s.cols.length c4)
  have c1 := c0.set_ 1 (.slice A4 s.cols.length c4)
  have o2 := o1.set_other c1 (by decide) 2 (.int .i64 s.next)
  have c2 := c1.set_ 2 (.int .i64 s.next)
  have o3 := o2.set_other c2 (by decide) 3 (.int .i64 0)
  have c3 := c2.set_ 3 (.int .i64 0)
  have o4 := o3.set_other c3 (by decide) 4 (.slice none 0 0)
  have c4_ := c3.set_ 4 (.slice none 0 0)
  have o5 := o4.set_other c4_ (by decide) 5 (.slice none 0 0)
  refine bodyPost_ret (v := .tuple #[.agg #[.int .i64 s.id, .slice A4 s.cols.length c4, .int .i64 s.next, .int .i64 0, .slice none 0 0, .slice none 0 0], .int .i64 0]) (by simp [results, Tryz.results27, go_sem, z0, z1, z2, z3, z4, z5]) rfl ?_
  exact ⟨A4, c4, rfl, hc4, ⟨o5.1, o5.2.imp id fun ⟨g, cap, cur, hv, hb, r⟩ => ⟨g, cap, cur, hv, Nat.le_trans hw3 hb, r⟩⟩, Step.of⟩
end Go.Proofs.YtnphokhehacfnaaGreatDoor

namespace Go.Proofs.YtnphokhehacfnaaGreatDoor
open Go.RowKit

theorem num25_any (e : Int) (w : World) : Calls Tryz.prog 29 #[.int .i64 e] w fun r w' => r = .returned (.int .i64 e) ∧ w' = w := by
  go_enter Tryz.func29, Tryz.ntmps29
  go_wp2_with fail
  go_ret
  exact ⟨rfl, rfl⟩
def kv25 (k : Int) : Val := ⟨1, k, false, ⟨#[]⟩⟩
def sa25 : Sch := ⟨0, [⟨1, ⟨#[97]⟩, 1⟩], 2⟩
def ta25 : Tb := ⟨sa25, 0, [], []⟩
def tb25 : Tb := ⟨sa25, 0, [], [[kv25 5]]⟩
theorem PrIn.none_ (w : World) : PrIn w [] none 0 := ⟨Nat.le_refl _, by decide, by decide, SlAt.nil_, fun n h => by simp at h⟩
theorem FsIn.none_ (w : World) : FsIn w [] none 0 := ⟨Nat.le_refl _, by decide, by decide, SlAt.nil_⟩
theorem RowsIn.none_ (w : World) : RowsIn w [] none 0 := ⟨Nat.le_refl _, by decide, by decide, SlAt.nil_, fun r h => by simp at h⟩
/-- An operation with little in it. -/
def opD (kind : Int) (cols : List ByteArray) (Ac : Option Addr) (rows : List RowA) (Ar : Option Addr) (ns : List Nod) (An : Option Addr) (col name : ByteArray) (ck : Int) (v : Val) (fs : List Fld) (Af : Option Addr) (agg : Int) : OpA :=
  ⟨kind, ⟨#[]⟩, cols, Ac, cols.length, rows, Ar, rows.length, ns, An, ns.length, col, name, ck, v, fs, Af, fs.length, 0, 0, agg⟩
theorem FineD.zero : FineD ⟨0, 0, false, ⟨#[]⟩⟩ := ⟨by decide, by decide, by decide⟩
theorem op_little (w : World) (kind : Int) (col name : ByteArray) (ck agg : Int) (hn : name.size ≤ 9223372036854775807) : OpIn w (opD kind [] none [] none [] none col name ck ⟨0, 0, false, ⟨#[]⟩⟩ [] none agg) :=
  ⟨SlAt.nil_, Nat.zero_le _, Nat.le_refl _, RowsIn.none_ w, fun r h => by simp [opD] at h, PrIn.none_ w, FsIn.none_ w, Nat.zero_le _, FineD.zero, hn⟩
theorem SlAt.of_blk25 {w : World} {g size : Nat} {t : TypeId} {l : List (List Value)} {cs : List Value} (h : Blk w g t cs) (he : cs = l.flatten) (hf : ∀ x ∈ l, x.length = size) : SlAt w w.heap.size size (some ⟨g, 0, none⟩) l := by
  subst he
  exact SlAt.of_at h.at0 h.lt hf
/-- Rows of one number each. -/
theorem row_one25 {w : World} {a g : Nat} {x : Int} (ha : Blk w a 36 [.int .i64 1, .int .i64 x, .bool false, .string ⟨#[]⟩]) (hr : Blk w g 67 [.slice (some ⟨a, 0, none⟩) 1 1]) : RowsIn w [⟨some ⟨a, 0, none⟩, 1, [kv25 x]⟩] (some ⟨g, 0, none⟩) 1 := by
  refine ⟨Nat.le_refl _, (by decide : 1 ≤ 5864062014800), by decide, SlAt.of_blk25 hr rfl (rows_fit _).len, fun r h => ?_⟩
  simp only [List.mem_cons, List.not_mem_nil, or_false] at h
  subst h
  exact ⟨Nat.le_refl _, (by decide : 1 ≤ 3518437208780), (by decide : 1 ≤ 9223372036854775807), SlAt.of_blk25 ha rfl (vals_fit _).len, fun v hv => by simp [kv25] at hv; subst hv; exact (by decide : (0 : Nat) ≤ 9223372036854775807)⟩
/-- A table's sizes are small where it may be. -/
theorem whole_small {k : Int} {v : Val} (h : wholeB k v = true) : v.s.size ≤ 64 ∧ (v.kind = 0 ∨ v.kind = 1 ∨ v.kind = 2 ∨ v.kind = 3) := by
  have hc := whole_clean h
  unfold wholeB at h
  rw [Bool.and_eq_true] at h
  have hk : v.kind = kindV v := by rw [← clean_kind, hc]
  unfold kindV at hk
  have h2 := h.2
  unfold fitsB at h2
  rw [hc] at h2
  rw [Bool.or_eq_true, Bool.and_eq_true, Bool.and_eq_true, decide_eq_true_iff, beq_iff_eq] at h2
  refine ⟨?_, by split at hk <;> omega⟩
  rcases h2 with h2 | h2
  · rw [← hc]
    unfold clean
    unfold kindV at h2
    split at h2
    · omega
    · rename_i hn
      rw [if_neg (by omega), if_neg (by omega), if_neg (by omega)]
      exact (by decide : (0 : Nat) ≤ 64)
  · exact h2.1.2
theorem names_small {s : Sch} (h : mayB s = true) : ∀ c ∈ s.cols, c.name.size ≤ 16 := by
  intro c hc
  obtain ⟨i, hi, rfl⟩ := List.getElem_of_mem hc
  have hok : okUpto s.next s.cols s.cols.length = true := by
    unfold mayB at h
    rw [Bool.and_eq_true] at h
    exact h.2
  have hcol : colOk s.next s.cols[i] = true := by
    cases e : colOk s.next s.cols[i] with
    | true => rfl
    | false =>
      have := okUpto_bad hi (okAt_of (List.getElem?_eq_getElem hi) e)
      rw [hok] at this
      cases this
  have hn := (colOk_inv hcol).2.2.1
  unfold nameB at hn
  rw [Bool.and_eq_true, Bool.and_eq_true, decide_eq_true_iff, decide_eq_true_iff] at hn
  exact hn.1.2
theorem TbFine.of_may {t : TbA} (h : tabB t.tb = true) : TbFine t := by
  obtain ⟨hm, hs, hl, hr⟩ := tabB_iff.1 h
  have hc := (addR_inv hm).2.2.2.2
  have hfl : t.fs.length ≤ 4 := by
    unfold specB at hs
    simp only [Bool.and_eq_true, decide_eq_true_iff] at hs
    exact hs.2.2.2.1
  refine ⟨by have : t.s.cols.length ≤ 12 := hc; omega, fun c hcm => ?_, by omega, by have : (t.rs.map RowA.vs).length ≤ 4096 := hl; rw [List.length_map] at this; omega, fun vs hvs => ?_⟩
  · have := names_small hm c hcm
    omega
  · have hw := List.all_eq_true.1 hr vs hvs
    unfold rowW at hw
    rw [Bool.and_eq_true, beq_iff_eq] at hw
    refine ⟨by have : t.s.cols.length ≤ 12 := hc; have h2 : vs.length = t.s.cols.length := hw.1; omega, fun v hv => ?_⟩
    obtain ⟨i, hi, rfl⟩ := List.getElem_of_mem hv
    have := wholeUpto_iff.1 hw.2 i (by omega) _ _ (List.getElem?_eq_getElem (by omega)) (List.getElem?_eq_getElem hi)
    have := (whole_small this).1
    omega
theorem tb_in {w : World} {base : Nat} {t : TbA} (h : TbOwnR w base t) (hm : tabB t.tb = true) : TbIn w t := h.tin (TbFine.of_may hm)
theorem aw25_0 : rnewR [⟨#[97]⟩] [1] = (sa25, 0) := by kernel_rfl
theorem aw25_1 : mayB sa25 = true := by kernel_rfl
theorem aw25_2 : applyP ta25 ⟨0, [⟨#[97]⟩], [[kv25 5]], [], ⟨#[]⟩, ⟨#[]⟩, 0, ⟨0, 0, false, ⟨#[]⟩⟩, [], 0⟩ = (tb25, 0) := by kernel_rfl
theorem aw25_3 : tabB tb25 = true := by kernel_rfl
theorem aw25_4 : readT tb25 ⟨9, [], [], [], ⟨#[97]⟩, ⟨#[]⟩, 0, ⟨0, 0, false, ⟨#[]⟩⟩, [], 2⟩ = (0, kv25 5) := by kernel_rfl
theorem aw25_5 : idx (named ⟨#[122]⟩) sa25.cols < 0 := by decide +kernel
theorem aw25_6 : applyP tb25 ⟨5, [], [], [], ⟨#[122]⟩, ⟨#[]⟩, 0, ⟨0, 0, false, ⟨#[]⟩⟩, [], 0⟩ = (tb25, 5) := by kernel_rfl
theorem fine_kv : ∀ vs ∈ tb25.rows, ∀ v ∈ vs, FineD v := by
  intro vs hvs v hv
  have h1 : vs = [kv25 5] := by simpa [tb25] using hvs
  subst h1
  have h2 : v = kv25 5 := by simpa using hv
  subst h2
  exact ⟨by decide, by decide, by decide⟩
theorem SameT.refl {t : Tb} (h : tabB t = true) : SameT t t := ⟨h, h, rfl, rfl, rfl, rfl, rfl, List.Perm.refl _⟩
theorem SaysB.yes {p : Prop} {e : Ending} (h : SaysB p e) (hp : p) : e = .returned (.bool true) := by
  obtain ⟨b, rfl, hb⟩ := h
  rw [hb.2 hp]
theorem SaysB.no {p : Prop} {e : Ending} (h : SaysB p e) (hp : ¬ p) : e = .returned (.bool false) := by
  obtain ⟨b, rfl, hb⟩ := h
  cases b with
  | false => rfl
  | true => exact absurd (hb.1 rfl) hp
set_option maxRecDepth 100000 in
set_option maxHeartbeats 16000000 in
theorem awake25_any (w : World) : Calls Tryz.prog 31 #[] w fun e w' => e = .returned (.bool true) ∧ Step w w' := by
  obtain ⟨W1, hW1⟩ : ∃ x : World, x = (w.alloc (.cells #[.string ⟨#[97]⟩] 9)).alloc (.cells #[.int .i64 1] 3) := ⟨_, rfl⟩
  have SW1 : Step w W1 := by rw [hW1]; exact Step.of
  have HW1 := hide hW1
  have NSC : Hid (Calls Tryz.prog 73 #[.slice (some ⟨w.heap.size, 0, none⟩) 1 1, .slice (some ⟨w.heap.size + 1, 0, none⟩) 1 1] W1 fun e w' => ∃ (A3 : Option Addr) (c3 : Nat), e = .returned (.tuple #[.agg #[.int .i64 0, .slice A3 1 c3, .int .i64 2], .int .i64 0]) ∧ 1 ≤ c3 ∧ c3 ≤ maxLen ∧ Own w' W1.heap.size 90 3 (.slice A3 1 c3) (sa25.cols.map Col.cells) ∧ Below W1.heap.size W1 w') := by
    have h1 := SlAt.strs1 (w := w) rfl ⟨#[97]⟩
    have h2 := SlAt.ints1 (w := w.alloc (.cells #[.string ⟨#[97]⟩] 9)) (b := w.heap.size + 1) (by simp) 1
    have := rnew_any [⟨#[97]⟩] [1] (some ⟨w.heap.size, 0, none⟩) (some ⟨w.heap.size + 1, 0, none⟩) 1 1 W1 (h1.al (.cells #[.int .i64 1] 3)) h2 (fn := by rw [hW1]; exact Fut.self _) (fk := by rw [hW1]; exact Fut.self _) (by decide) (fun n hn => by simp at hn; subst hn; decide)
    rw [aw25_0] at this
    exact this
  clear hW1
  go_enter Tryz.func31, Tryz.ntmps31
  go_upto_region 2 with (go_at_call 73; rw [HW1.out.symm]; (with_reducible refine NSC.out.mono ?_); rintro e w3 ⟨A3, c3, rfl, hc3, hm3, ho3, hb3⟩; have HO3 := hide ho3; have HM3 := hide (⟨hc3, hm3⟩ : _ ∧ _); have hs3 : Step W1 w3 := ⟨hb3⟩; clear ho3 hc3 hm3 hb3)
  obtain ⟨X1, hX1⟩ : ∃ x : World, x = w3.alloc (.cells #[.int .i64 0, .slice A3 1 c3, .int .i64 2] 24) := ⟨_, rfl⟩
  have SX1 : Step w3 X1 := by rw [hX1]; exact Step.of
  have HSB : Hid (Blk X1 w3.heap.size 24 [.int .i64 0, .slice A3 1 c3, .int .i64 2]) := by rw [hX1]; exact Blk.new w3 _ 24
  rw [← hX1]
  clear hX1
  have HSI : Hid (SchIn X1 sa25 A3 c3) := ⟨HM3.out.1, by have := HM3.out.2; simpa [maxLen] using this, by decide, HO3.out.fut.sl (cols_fit _).len, fun c hc => by simp [sa25] at hc; subst hc; decide⟩
  have NEWC : Hid (Calls Tryz.prog 27 #[.agg #[.int .i64 0, .slice A3 1 c3, .int .i64 2]] X1 fun e w' => ∃ (A' : Option Addr) (cap' : Nat), e = .returned (.tuple #[.agg #[.int .i64 0, .slice A' 1 cap', .int .i64 2, .int .i64 0, .slice none 0 0, .slice none 0 0], .int .i64 0]) ∧ 1 ≤ cap' ∧ Own w' X1.heap.size 90 3 (.slice A' 1 cap') (sa25.cols.map Col.cells) ∧ Step X1 w') := mnew_yes sa25 A3 c3 X1 HSI.out aw25_1
  have s0 := At.z3 HSB.out.at0
  obtain ⟨s0, s1, s2⟩ := s0
  have ls := HSB.out.lt
  go_upto_region 3 with (go_at_call 27; (with_reducible refine NEWC.out.mono ?_); rintro e w4 ⟨A4, c4, rfl, hc4, ho4, hs4⟩; have HO4 := hide ho4; have HC4 := hide hc4; clear ho4 hc4)
  obtain ⟨X2, hX2⟩ : ∃ x : World, x = w4.alloc (.cells #[.int .i64 0, .slice A4 1 c4, .int .i64 2, .int .i64 0, .slice none 0 0, .slice none 0 0] 30) := ⟨_, rfl⟩
  have SX2 : Step w4 X2 := by rw [hX2]; exact Step.of
  have HT0B : Hid (Blk X2 w4.heap.size 30 [.int .i64 0, .slice A4 1 c4, .int .i64 2, .int .i64 0, .slice none 0 0, .slice none 0 0]) := by rw [hX2]; exact Blk.new w4 _ 30
  have HZ2 : Hid (X2.heap.size = w4.heap.size + 1) := by rw [hX2]; show _ = _; simp
  rw [← hX2]
  clear hX2 s0 s1 s2 ls
  have HTI0 : Hid (TbIn X2 ⟨sa25, A4, c4, 0, [], none, 0, [], none, 0⟩) := tb_in (base := X1.heap.size) ⟨HO4.out.fut, Own.nil_ _ _ _ _, ⟨Own.nil_ _ _ _ _, fun r h => by simp at h⟩⟩ (by kernel_rfl)
  obtain ⟨z0, z1, z2, z3, z4, z5⟩ := At.z6 HT0B.out.at0
  have lz := HT0B.out.lt
  obtain ⟨X3, hX3⟩ : ∃ x : World, x = X2.alloc (.cells #[.int .i64 1, .int .i64 5, .bool false, .string ⟨#[]⟩] 36) := ⟨_, rfl⟩
  have SX3 : Step X2 X3 := by rw [hX3]; exact Step.of
  have HFV : Hid (Blk X3 X2.heap.size 36 [.int .i64 1, .int .i64 5, .bool false, .string ⟨#[]⟩]) := by rw [hX3]; exact Blk.new X2 _ 36
  have HZ3 : Hid (X3.heap.size = X2.heap.size + 1) := by rw [hX3]; show _ = _; simp
  go_upto_region 4 with fail
  rw [← hX3]
  clear hX3 z0 z1 z2 z3 z4 z5 lz
  obtain ⟨z0, z1, z2, z3, z4, z5⟩ := At.z6 (HT0B.out.fut (w' := X3)).at0
  have lz := (HT0B.out.fut (w' := X3)).lt
  obtain ⟨v0, v1, v2, v3⟩ := At.z4 HFV.out.at0
  have lv := HFV.out.lt
  obtain ⟨W5, hW5⟩ : ∃ x : World, x = ((X3.alloc (.cells #[.string ⟨#[97]⟩] 9)).alloc (.cells #[.int .i64 1, .int .i64 5, .bool false, .string ⟨#[]⟩] 36)).alloc (.cells #[.slice (some ⟨X3.heap.size + 1, 0, none⟩) 1 1] 67) := ⟨_, rfl⟩
  have SW5 : Step X3 W5 := by rw [hW5]; exact Step.of
  have HC5 : Hid (Blk W5 X3.heap.size 9 [.string ⟨#[97]⟩]) := by rw [hW5]; exact ((Blk.new X3 _ 9).alloc _).alloc _
  have HV5 : Hid (Blk W5 (X3.heap.size + 1) 36 [.int .i64 1, .int .i64 5, .bool false, .string ⟨#[]⟩]) := by rw [hW5]; exact (Blk.new_at (by simp) _ 36).alloc _
  have HR5 : Hid (Blk W5 (X3.heap.size + 2) 67 [.slice (some ⟨X3.heap.size + 1, 0, none⟩) 1 1]) := by rw [hW5]; exact Blk.new_at (by simp) _ 67
  have HW5 := hide hW5
  clear hW5
  have AP1 : Hid (Calls Tryz.prog 13 #[.agg #[.int .i64 0, .slice A4 1 c4, .int .i64 2, .int .i64 0, .slice none 0 0, .slice none 0 0], .agg #[.int .i64 0, .string ⟨#[]⟩, .slice (some ⟨X3.heap.size, 0, none⟩) 1 1, .slice (some ⟨X3.heap.size + 2, 0, none⟩) 1 1, .slice none 0 0, .string ⟨#[]⟩, .string ⟨#[]⟩, .int .i64 0, .int .i64 0, .int .i64 0, .bool false, .string ⟨#[]⟩, .slice none 0 0, .int .i64 0, .int .i64 0, .int .i64 0]] W5 (ApplyR W5 (tb25, 0))) := by
    have := apply_add (w0 := X2) (w1 := W5) ⟨sa25, A4, c4, 0, [], none, 0, [], none, 0⟩ (opD 0 [⟨#[97]⟩] (some ⟨X3.heap.size, 0, none⟩) [⟨some ⟨X3.heap.size + 1, 0, none⟩, 1, [kv25 5]⟩] (some ⟨X3.heap.size + 2, 0, none⟩) [] none ⟨#[]⟩ ⟨#[]⟩ 0 ⟨0, 0, false, ⟨#[]⟩⟩ [] none 0) W5 HTI0.out
      ⟨SlAt.of_blk25 HC5.out rfl (txs_fit [⟨#[97]⟩]).len, (by show 1 ≤ 8796093022207; decide), Nat.le_refl _, row_one25 HV5.out HR5.out, fun r hr v hv => by
        simp only [opD, List.mem_cons, List.not_mem_nil, or_false] at hr
        subst hr
        simp only [List.mem_cons, List.not_mem_nil, or_false] at hv
        subst hv
        exact ⟨by decide, by decide, by decide⟩, PrIn.none_ _, FsIn.none_ _, Nat.zero_le _, FineD.zero, (by show 0 ≤ 9223372036854775807; decide)⟩ rfl
    rw [show applyP (TbA.tb ⟨sa25, A4, c4, 0, [], none, 0, [], none, 0⟩) (OpA.op (opD 0 [⟨#[97]⟩] (some ⟨X3.heap.size, 0, none⟩) [⟨some ⟨X3.heap.size + 1, 0, none⟩, 1, [kv25 5]⟩] (some ⟨X3.heap.size + 2, 0, none⟩) [] none ⟨#[]⟩ ⟨#[]⟩ 0 ⟨0, 0, false, ⟨#[]⟩⟩ [] none 0)) = (tb25, 0) from aw25_2] at this
    exact this
  go_upto_region 5 with (go_at_call 13; rw [HW5.out.symm]; (with_reducible refine AP1.out.mono ?_); rintro e w6 ⟨t1, rfl, ht1, ho6, hs6⟩; have HT1 := hide ht1; have HO6 := hide ho6; clear ht1 ho6)
  clear z0 z1 z2 z3 z4 z5 lz v0 v1 v2 v3 lv
  obtain ⟨X6, hX6⟩ : ∃ x : World, x = w6.alloc (.cells #[.int .i64 t1.s.id, .slice t1.As t1.s.cols.length t1.cs, .int .i64 t1.s.next, .int .i64 t1.sid, .slice t1.Af t1.fs.length t1.cf, .slice t1.Ar t1.rs.length t1.cr] 30) := ⟨_, rfl⟩
  have SX6 : Step w6 X6 := by rw [hX6]; exact Step.of
  have HT1B : Hid (Blk X6 w6.heap.size 30 [.int .i64 t1.s.id, .slice t1.As t1.s.cols.length t1.cs, .int .i64 t1.s.next, .int .i64 t1.sid, .slice t1.Af t1.fs.length t1.cf, .slice t1.Ar t1.rs.length t1.cr]) := by rw [hX6]; exact Blk.new w6 _ 30
  rw [← hX6]
  clear hX6
  have HTI1 : Hid (TbIn X6 t1) := tb_in HO6.out.fut (by rw [HT1.out]; exact aw25_3)
  have HLN : Hid (t1.rs.length = 1) := by
    show _ = _
    have := congrArg (fun q => q.rows.length) HT1.out
    simpa [TbA.tb, tb25] using this
  have hln : (t1.rs.length : Int) = 1 := by rw [HLN.out]; rfl
  have HLNI := hide hln
  clear hln
  obtain ⟨t0, t1_, t2_, t3_, t4_, t5_⟩ := At.z6 HT1B.out.at0
  have lt_ := HT1B.out.lt
  have RD1 : Hid (Calls Tryz.prog 32 #[.agg #[.int .i64 t1.s.id, .slice t1.As t1.s.cols.length t1.cs, .int .i64 t1.s.next, .int .i64 t1.sid, .slice t1.Af t1.fs.length t1.cf, .slice t1.Ar t1.rs.length t1.cr], .agg #[.int .i64 9, .string ⟨#[]⟩, .slice none 0 0, .slice none 0 0, .slice none 0 0, .string ⟨#[97]⟩, .string ⟨#[]⟩, .int .i64 0, .int .i64 0, .int .i64 0, .bool false, .string ⟨#[]⟩, .slice none 0 0, .int .i64 0, .int .i64 0, .int .i64 2]] X6 fun e w' => e = .returned (.agg #[.int .i64 0, .slice none 0 0, .slice none 0 0, .int .i64 1, .int .i64 5, .bool false, .string ⟨#[]⟩]) ∧ Step X6 w') := by
    have := readAgg (w0 := X6) (w1 := X6) t1 (opD 9 [] none [] none [] none ⟨#[97]⟩ ⟨#[]⟩ 0 ⟨0, 0, false, ⟨#[]⟩⟩ [] none 2) X6 HTI1.out (op_little X6 9 ⟨#[97]⟩ ⟨#[]⟩ 0 2 (by decide)) (by show (2 : Int) ≠ 0; decide) (by rw [HT1.out]; exact fine_kv)
    rw [HT1.out] at this
    rw [show readT tb25 (OpA.op (opD 9 [] none [] none [] none ⟨#[97]⟩ ⟨#[]⟩ 0 ⟨0, 0, false, ⟨#[]⟩⟩ [] none 2)) = (0, kv25 5) from aw25_4] at this
    exact this
  go_upto_region 6 with (go_at_call 32; (with_reducible refine RD1.out.mono ?_); rintro e w7 ⟨rfl, hs7⟩)
  clear t0 t1_ t2_ t3_ t4_ t5_ lt_
  obtain ⟨X7, hX7⟩ : ∃ x : World, x = w7.alloc (.cells #[.int .i64 0, .slice none 0 0, .slice none 0 0, .int .i64 1, .int .i64 5, .bool false, .string ⟨#[]⟩] 59) := ⟨_, rfl⟩
  have SX7 : Step w7 X7 := by rw [hX7]; exact Step.of
  have HAN : Hid (Blk X7 w7.heap.size 59 [.int .i64 0, .slice none 0 0, .slice none 0 0, .int .i64 1, .int .i64 5, .bool false, .string ⟨#[]⟩]) := by rw [hX7]; exact Blk.new w7 _ 59
  rw [← hX7]
  clear hX7
  obtain ⟨t0, t1_, t2_, t3_, t4_, t5_⟩ := At.z6 (HT1B.out.fut (w' := X7)).at0
  have lt_ := (HT1B.out.fut (w' := X7)).lt
  have AP2 : Hid (Calls Tryz.prog 13 #[.agg #[.int .i64 t1.s.id, .slice t1.As t1.s.cols.length t1.cs, .int .i64 t1.s.next, .int .i64 t1.sid, .slice t1.Af t1.fs.length t1.cf, .slice t1.Ar t1.rs.length t1.cr], .agg #[.int .i64 5, .string ⟨#[]⟩, .slice none 0 0, .slice none 0 0, .slice none 0 0, .string ⟨#[122]⟩, .string ⟨#[]⟩, .int .i64 0, .int .i64 0, .int .i64 0, .bool false, .string ⟨#[]⟩, .slice none 0 0, .int .i64 0, .int .i64 0, .int .i64 0]] X7 (ApplyR X7 (tb25, 5))) := by
    have := apply_drop_none (w0 := X6) t1 (opD 5 [] none [] none [] none ⟨#[122]⟩ ⟨#[]⟩ 0 ⟨0, 0, false, ⟨#[]⟩⟩ [] none 0) X7 HTI1.out rfl (by rw [show t1.s = sa25 from congrArg Tb.s HT1.out]; exact aw25_5)
    rw [HT1.out] at this
    rw [show applyP tb25 (OpA.op (opD 5 [] none [] none [] none ⟨#[122]⟩ ⟨#[]⟩ 0 ⟨0, 0, false, ⟨#[]⟩⟩ [] none 0)) = (tb25, 5) from aw25_6] at this
    exact this
  go_upto_region 7 with (go_at_call 13; (with_reducible refine AP2.out.mono ?_); rintro e w8 ⟨t2, rfl, ht2, ho8, hs8⟩; clear ht2 ho8)
  clear t0 t1_ t2_ t3_ t4_ t5_ lt_
  obtain ⟨X8, hX8⟩ : ∃ x : World, x = w8.alloc (.cells #[.int .i64 t2.s.id, .slice t2.As t2.s.cols.length t2.cs, .int .i64 t2.s.next, .int .i64 t2.sid, .slice t2.Af t2.fs.length t2.cf, .slice t2.Ar t2.rs.length t2.cr] 30) := ⟨_, rfl⟩
  have SX8 : Step w8 X8 := by rw [hX8]; exact Step.of
  rw [← hX8]
  clear hX8
  have MAYC : Hid (∀ (w' : World) [Fut X6 w'], Calls Tryz.prog 19 #[.agg #[.int .i64 t1.s.id, .slice t1.As t1.s.cols.length t1.cs, .int .i64 t1.s.next, .int .i64 t1.sid, .slice t1.Af t1.fs.length t1.cf, .slice t1.Ar t1.rs.length t1.cr]] w' fun e w'' => e = .returned (.bool true) ∧ Step w' w'') := fun w' _ => by
    have := mmay_any t1 w' HTI1.out
    rw [HT1.out, aw25_3] at this
    exact this
  have SM1 : Hid (∀ (w' : World) [Fut X6 w'], Calls Tryz.prog 21 #[.agg #[.int .i64 t1.s.id, .slice t1.As t1.s.cols.length t1.cs, .int .i64 t1.s.next, .int .i64 t1.sid, .slice t1.Af t1.fs.length t1.cf, .slice t1.Ar t1.rs.length t1.cr], .agg #[.int .i64 t1.s.id, .slice t1.As t1.s.cols.length t1.cs, .int .i64 t1.s.next, .int .i64 t1.sid, .slice t1.Af t1.fs.length t1.cf, .slice t1.Ar t1.rs.length t1.cr]] w' fun e w'' => e = .returned (.bool true) ∧ Step w' w'') := fun w' _ =>
    (msame_any t1 t1 w' HTI1.out HTI1.out).mono fun e w'' h => ⟨h.1.yes (by rw [HT1.out]; exact SameT.refl aw25_3), h.2⟩
  have SM2 : Hid (∀ (w' : World) [Fut X2 w'] [Fut X6 w'], Calls Tryz.prog 21 #[.agg #[.int .i64 0, .slice A4 1 c4, .int .i64 2, .int .i64 0, .slice none 0 0, .slice none 0 0], .agg #[.int .i64 t1.s.id, .slice t1.As t1.s.cols.length t1.cs, .int .i64 t1.s.next, .int .i64 t1.sid, .slice t1.Af t1.fs.length t1.cf, .slice t1.Ar t1.rs.length t1.cr]] w' fun e w'' => e = .returned (.bool false) ∧ Step w' w'') := fun w' _ _ =>
    (msame_any ⟨sa25, A4, c4, 0, [], none, 0, [], none, 0⟩ t1 w' HTI0.out HTI1.out).mono fun e w'' h => ⟨h.1.no (fun hs => by
      have := hs.rows.length_eq
      rw [HT1.out] at this
      simp [TbA.tb, tb25] at this), h.2⟩
  obtain ⟨z0, z1, z2, z3, z4, z5⟩ := At.z6 (HT0B.out.fut (w' := X8)).at0
  have lz := (HT0B.out.fut (w' := X8)).lt
  obtain ⟨p0, p1, p2, p3, p4, p5⟩ := At.z6 (HT1B.out.fut (w' := X8)).at0
  have lp := (HT1B.out.fut (w' := X8)).lt
  obtain ⟨v0, v1, v2, v3⟩ := At.z4 (HFV.out.fut (w' := X8)).at0
  have lv := (HFV.out.fut (w' := X8)).lt
  obtain ⟨a0, a1, a2, a3, a4, a5, a6⟩ := At.z7 (HAN.out.fut (w' := X8)).at0
  have la := (HAN.out.fut (w' := X8)).lt
  have hlb : ((t1.rs.length : Int) == 1) = true := by rw [HLNI.out]; rfl
  go_wp2_with (first | (go_at_call 29; (with_reducible refine (num25_any _ _).mono ?_); rintro e w' ⟨rfl, h9⟩; obtain rfl := h9.symm; clear h9) | (go_at_call 19; (with_reducible refine (MAYC.out _).mono ?_); rintro e w11 ⟨rfl, hs11⟩; clear z0 z1 z2 z3 z4 z5 lz p0 p1 p2 p3 p4 p5 lp v0 v1 v2 v3 lv a0 a1 a2 a3 a4 a5 a6 la; obtain ⟨z0, z1, z2, z3, z4, z5⟩ := At.z6 (HT0B.out.fut (w' := w11)).at0; have lz := (HT0B.out.fut (w' := w11)).lt; obtain ⟨p0, p1, p2, p3, p4, p5⟩ := At.z6 (HT1B.out.fut (w' := w11)).at0; have lp := (HT1B.out.fut (w' := w11)).lt; obtain ⟨v0, v1, v2, v3⟩ := At.z4 (HFV.out.fut (w' := w11)).at0; have lv := (HFV.out.fut (w' := w11)).lt; obtain ⟨a0, a1, a2, a3, a4, a5, a6⟩ := At.z7 (HAN.out.fut (w' := w11)).at0; have la := (HAN.out.fut (w' := w11)).lt) | (go_at_call 21; first | ((with_reducible refine (SM1.out _).mono ?_); rintro e w12 ⟨rfl, hs12⟩; clear z0 z1 z2 z3 z4 z5 lz p0 p1 p2 p3 p4 p5 lp v0 v1 v2 v3 lv a0 a1 a2 a3 a4 a5 a6 la; obtain ⟨z0, z1, z2, z3, z4, z5⟩ := At.z6 (HT0B.out.fut (w' := w12)).at0; have lz := (HT0B.out.fut (w' := w12)).lt; obtain ⟨p0, p1, p2, p3, p4, p5⟩ := At.z6 (HT1B.out.fut (w' := w12)).at0; have lp := (HT1B.out.fut (w' := w12)).lt; obtain ⟨v0, v1, v2, v3⟩ := At.z4 (HFV.out.fut (w' := w12)).at0; have lv := (HFV.out.fut (w' := w12)).lt; obtain ⟨a0, a1, a2, a3, a4, a5, a6⟩ := At.z7 (HAN.out.fut (w' := w12)).at0; have la := (HAN.out.fut (w' := w12)).lt) | ((with_reducible refine (SM2.out _).mono ?_); rintro e w13 ⟨rfl, hs13⟩; clear z0 z1 z2 z3 z4 z5 lz p0 p1 p2 p3 p4 p5 lp v0 v1 v2 v3 lv a0 a1 a2 a3 a4 a5 a6 la; obtain ⟨z0, z1, z2, z3, z4, z5⟩ := At.z6 (HT0B.out.fut (w' := w13)).at0; have lz := (HT0B.out.fut (w' := w13)).lt; obtain ⟨p0, p1, p2, p3, p4, p5⟩ := At.z6 (HT1B.out.fut (w' := w13)).at0; have lp := (HT1B.out.fut (w' := w13)).lt; obtain ⟨v0, v1, v2, v3⟩ := At.z4 (HFV.out.fut (w' := w13)).at0; have lv := (HFV.out.fut (w' := w13)).lt; obtain ⟨a0, a1, a2, a3, a4, a5, a6⟩ := At.z7 (HAN.out.fut (w' := w13)).at0; have la := (HAN.out.fut (w' := w13)).lt)))
  go_ret
  exact ⟨rfl, Step.of⟩
end Go.Proofs.YtnphokhehacfnaaGreatDoor

