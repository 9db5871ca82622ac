/-
  Texts put together: Xy.
-/
import Derived.Test.YtnphokhehacfnaaGreatDoorCz26
namespace Go.Proofs.YtnphokhehacfnaaGreatDoor
open Go.RowKit

theorem run_cols {w1 : World} (g D T O : Nat) (t : TbA) (o : OpA) (w : World) (h : Doer w g D T O t o) (ho : OpIn w1 o) [f1 : Fut w1 w] (hm : tabB t.tb = true) (hf : TbFine t) (hg : g ≤ w.heap.size) (hc : o.kind = 4 ∨ o.kind = 5 ∨ o.kind = 6) :
    Calls Tryz.prog 44 #[.pointer (some ⟨D, 0, none⟩)] w fun e w' => RunR g T w (runP t.tb o.op) e w' := by
  obtain ⟨hrow, hn1, hn12, hn4, hs0, hs1⟩ := tb_rows hm
  have e : runP t.tb o.op = if o.kind = 0 then growP t.tb o.op else if o.kind = 1 ∨ o.kind = 2 then takeP t.tb o.op else if o.kind = 3 then updateP t.tb o.op else if o.kind = 4 then addcP t.tb o.op else if o.kind = 5 then dropP t.tb o.op else if o.kind = 6 then shapeP t.tb (renameR t.s o.col o.name) else if o.kind = 7 then partP25 t.tb o.op else .ok t.tb := rfl
  rw [e]
  rcases hc with hk | hk | hk
  · rw [if_neg (by omega), if_neg (by omega), if_neg (by omega), if_pos hk]
    exact run_addc g D T O t o w h ho hf hg hn1 hn12 hn4 hrow hk
  · rw [if_neg (by omega), if_neg (by omega), if_neg (by omega), if_neg (by omega), if_pos hk]
    exact run_drop g D T O t o w h ho hf hg hn12 hn4 hrow hk
  · rw [if_neg (by omega), if_neg (by omega), if_neg (by omega), if_neg (by omega), if_neg (by omega), if_pos hk]
    exact run_ren g D T O t o w h ho hf hg hk
/-- Apply of an operation on columns, on any table. -/
theorem apply_cols {w0 w1 : World} (t : TbA) (o : OpA) (w : World) (hin : TbIn w0 t) (ho : OpIn w1 o) [f0 : Fut w0 w] [f1 : Fut w1 w] (hc : o.kind = 4 ∨ o.kind = 5 ∨ o.kind = 6) :
    Calls Tryz.prog 13 #[t.val, .agg #[.int .i64 o.kind, .string o.txn, .slice o.Ac o.cols.length o.cc, .slice o.Ar o.rows.length o.cr, .slice o.An o.ns.length o.cn, .string o.col, .string o.name, .int .i64 o.ck, .int .i64 o.v.kind, .int .i64 o.v.i, .bool o.v.b, .string o.v.s, .slice o.Af o.fs.length o.cf, .int .i64 o.ver, .int .i64 o.time, .int .i64 o.agg]] w (ApplyR w (applyP t.tb o.op)) := by
  refine apply_by t o w hin (by omega) (by omega) (fun c hc => run_err hc) fun hm g D T O t' w' hq hd he hg => ?_
  haveI := Fut.tr f1 hq
  rw [← he] at hm ⊢
  exact run_cols g D T O t' o w' hd ho hm (hin.fine.of_tb he) hg hc
end Go.Proofs.YtnphokhehacfnaaGreatDoor

