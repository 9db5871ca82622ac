/-
  Texts put together: Xt.
-/
import Derived.Test.YtnphokhehacfnaaGreatDoorSz03
import Derived.Test.YtnphokhehacfnaaGreatDoorSz04
import Derived.Test.YtnphokhehacfnaaGreatDoorSz90
import Derived.Test.YtnphokhehacfnaaGreatDoorSz91
namespace Go.Proofs.YtnphokhehacfnaaGreatDoor
open Go.RowKit

/-- The law ModelSums. -/
theorem sums_any {v0 v1 : World} (t : TbA) (o : OpA) (w : World) (hin : TbIn v0 t) (hfi : ∀ r ∈ t.rs, ∀ v ∈ r.vs, FineD v) (hop : OpIn v1 o) [f0 : Fut v0 w] [f1 : Fut v1 w] :
    Calls Tryz.prog 7 #[.agg #[.int .i64 t.s.id, .slice t.As t.s.cols.length t.cs, .int .i64 t.s.next, .int .i64 t.sid, .slice t.Af t.fs.length t.cf, .slice t.Ar t.rs.length t.cr], .agg #[.int .i64 o.kind, .string o.txn, .slice o.Ac o.cols.length o.cc, .slice o.Ar o.rows.length o.cr, .slice o.An o.ns.length o.cn, .string o.col, .string o.name, .int .i64 o.ck, .int .i64 o.v.kind, .int .i64 o.v.i, .bool o.v.b, .string o.v.s, .slice o.Af o.fs.length o.cf, .int .i64 o.ver, .int .i64 o.time, .int .i64 o.agg]] w fun e w' => e = .returned (.bool true) ∧ Step w w' := by
  have hf : ∀ vs ∈ t.tb.rows, ∀ v ∈ vs, FineD v := fun vs hvs => by
    obtain ⟨r, hr, rfl⟩ := List.mem_map.1 hvs
    exact hfi r hr
  cases hR : readR t.tb (opS o.op 0) with
  | error c => exact sums_no t o w hin hop hf hR
  | ok p =>
    obtain ⟨h1, vals, h2, h3, h4, h5, h6, h7⟩ := sums_ok hR
    refine sums_yes t o w hin hop hf (vals := vals) (by rw [hR, ← h2]; exact congrArg (fun x => Except.ok (x, p.2)) h1) h3 h4 h5 rfl rfl rfl h6 fun l hl vs hvs => ?_
    obtain ⟨q, hq, rfl⟩ := List.mem_map.1 (hl.mem_iff.1 hvs)
    obtain ⟨v, hv, rfl⟩ := List.mem_map.1 hq
    refine ⟨by show 1 ≤ _; decide, fun x hx => ?_⟩
    have hx : x ∈ [clean (clean v)] := hx
    simp only [List.mem_cons, List.not_mem_nil, or_false] at hx
    rw [hx, clean_clean]
    rcases h7 v hv with rfl | ⟨y, hy, u, hu, rfl⟩
    · decide
    · rw [clean_clean]
      exact clean_fineD (Nat.le_trans (hf y hy u hu).1 (by decide))
end Go.Proofs.YtnphokhehacfnaaGreatDoor

