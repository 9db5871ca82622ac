/-
  Texts put together: Xg.
-/
import Derived.Test.YtnphokhehacfnaaGreatDoorPz11
import Derived.Test.YtnphokhehacfnaaGreatDoorPz21
namespace Go.Proofs.YtnphokhehacfnaaGreatDoor
open Go.RowKit

set_option maxRecDepth 100000 in
set_option maxHeartbeats 4000000 in
theorem run_upd {w1 : World} (g D T O : Nat) (t : TbA) (o : OpA) (w : World) (h : Doer w g D T O t o) (ho : OpIn w1 o) [f1 : Fut w1 w] (hf : TbFine t) (hg : g ≤ w.heap.size) (hn12 : t.s.cols.length ≤ 12) (hn4 : t.rs.length ≤ 4096) (hrow : ∀ r ∈ t.rs, r.vs.length = t.s.cols.length) (hk : o.kind = 3) :
    Calls Tryz.prog 44 #[.pointer (some ⟨D, 0, none⟩)] w fun e w' => RunR g T w (updateP t.tb o.op) e w' := by
  have CC := update_any g D T O t o w h ho hf hg hn12 hn4 hrow
  have HD := hide h
  obtain ⟨d0, d1⟩ := At.z2 (HD.out.d.fut (w' := w)).at0
  have ld := (HD.out.d.fut (w' := w)).lt
  obtain ⟨t0, t1, t2, t3, t4, t5⟩ := At.z6 (HD.out.tb.fut (w' := w)).at0
  have lt_ := (HD.out.tb.fut (w' := w)).lt
  have ft_ := (HD.out.tb.fut (w' := w)).free
  obtain ⟨o0, o1, o2, o3, o4, o5, o6, o7, o8, o9, o10, o11, o12, o13, o14, o15⟩ := At.zOp (HD.out.op.fut (w' := w)).at0
  have lo := (HD.out.op.fut (w' := w)).lt
  unfold TbA.cells at *
  rw [hk] at o0
  clear hk
  cases hR : updateP t.tb o.op with
  | error c =>
    rw [hR] at CC
    have CC := hide CC
    clear hR
    go_enter Tryz.func44, Tryz.ntmps44
    go_wp2_with (go_at_call 89; (with_reducible refine CC.out.mono ?_); rintro e w3 ⟨hmt, rfl⟩; have HMT := hide hmt; clear hmt)
    exact ⟨rfl, HMT.out, rfl⟩
  | ok u =>
    rw [hR] at CC
    have CC := hide CC
    clear hR
    go_enter Tryz.func44, Tryz.ntmps44
    go_wp2_with (go_at_call 89; (with_reducible refine CC.out.mono ?_); rintro e w3 ⟨hmt, rfl, t2, ht2, hb2, ho2⟩; have HMT := hide hmt; have HT2 := hide ht2; have HB2 := hide hb2; have HO2 := hide ho2; clear hmt ht2 hb2 ho2)
    go_end0
    exact ⟨HMT.out, rfl, t2, HT2.out, HB2.out, HO2.out⟩
theorem upd_err {t : Tb} {o : Opp} {c : Int} (h : updateP t o = .error c) : c ≠ 0 := by
  rw [upd_eq] at h
  split at h
  · injection h with h; omega
  · split at h
    · rename_i hq
      injection h with h
      unfold yesP at hq
      split at hq
      · injection hq with hq; omega
      · cases hq
    · unfold updC at h
      split at h
      · injection h with h; omega
      · split at h
        · injection h with h; omega
        · cases h
theorem rowW_len {cols : List Col} {vs : List Val} (h : rowW cols vs = true) : vs.length = cols.length := by
  unfold rowW at h
  rw [Bool.and_eq_true, beq_iff_eq] at h
  exact h.1
theorem tb_rows {t : TbA} (h : tabB t.tb = true) : (∀ r ∈ t.rs, r.vs.length = t.s.cols.length) ∧ 1 ≤ t.s.cols.length ∧ t.s.cols.length ≤ 12 ∧ t.rs.length ≤ 4096 ∧ 0 ≤ t.sid ∧ t.sid ≤ 2147483647 := by
  obtain ⟨hm, hs, hl, hr⟩ := tabB_iff.1 h
  have hd := mayB_head hm
  refine ⟨fun r hrm => rowW_len (List.all_eq_true.1 hr r.vs (List.mem_map_of_mem hrm)), hd.2.2.1, hd.2.2.2.1, by simpa [TbA.tb] using hl, ?_⟩
  unfold specB at hs
  rw [Bool.and_eq_true, Bool.and_eq_true, Bool.and_eq_true, decide_eq_true_iff, decide_eq_true_iff] at hs
  exact ⟨hs.2.1, hs.2.2.1⟩
theorem apply_upd {w0 w1 : World} (t : TbA) (o : OpA) (w : World) (hin : TbIn w0 t) (ho : OpIn w1 o) [f0 : Fut w0 w] [f1 : Fut w1 w] (hk : o.kind = 3) :
    Calls Tryz.prog 13 #[t.val, .agg #[.int .i64 o.kind, .string o.txn, .slice o.Ac o.cols.length o.cc, .slice o.Ar o.rows.length o.cr, .slice o.An o.ns.length o.cn, .string o.col, .string o.name, .int .i64 o.ck, .int .i64 o.v.kind, .int .i64 o.v.i, .bool o.v.b, .string o.v.s, .slice o.Af o.fs.length o.cf, .int .i64 o.ver, .int .i64 o.time, .int .i64 o.agg]] w (ApplyR w (applyP t.tb o.op)) := by
  have hr : runP t.tb o.op = updateP t.tb o.op := by rw [runP, if_neg (show ¬ o.op.kind = 0 by show ¬ o.kind = 0; omega), if_neg (show ¬ (o.op.kind = 1 ∨ o.op.kind = 2) by show ¬ (o.kind = 1 ∨ o.kind = 2); omega), if_pos (show o.op.kind = 3 from hk)]
  refine apply_by t o w hin (by omega) (by omega) (fun c hc => upd_err (by rw [← hr]; exact hc)) fun hm g D T O t' w' hq hd he hg => ?_
  haveI := Fut.tr f1 hq
  rw [hr, ← he]
  have hm' := hm
  rw [← he] at hm'
  obtain ⟨hrow, _, hn12, hn4, _⟩ := tb_rows hm'
  exact run_upd g D T O t' o w' hd ho (hin.fine.of_tb he) hg hn12 hn4 hrow hk
end Go.Proofs.YtnphokhehacfnaaGreatDoor

