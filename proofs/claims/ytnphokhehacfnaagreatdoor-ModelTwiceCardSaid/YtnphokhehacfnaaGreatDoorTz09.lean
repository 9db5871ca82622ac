/-
  Texts put together: Xk.
-/
import Derived.Test.YtnphokhehacfnaaGreatDoorTz06
import Derived.Test.YtnphokhehacfnaaGreatDoorTz07
import Derived.Test.YtnphokhehacfnaaGreatDoorTz08
import Derived.Test.YtnphokhehacfnaaGreatDoorTz90
import Derived.Test.YtnphokhehacfnaaGreatDoorTz91
namespace Go.Proofs.YtnphokhehacfnaaGreatDoor
open Go.RowKit

theorem twice_any {v0 v1 : World} (t : TbA) (o : OpA) (w : World) (hin : TbIn v0 t) (hop : OpIn v1 o) [f0 : Fut v0 w] [f1 : Fut v1 w] :
    Calls Tryz.prog 6 #[.agg #[.int .i64 t.s.id, .slice t.As t.s.cols.length t.cs, .int .i64 t.s.next, .int .i64 t.sid, .slice t.Af t.fs.length t.cf, .slice t.Ar t.rs.length t.cr], .agg #[.int .i64 o.kind, .string o.txn, .slice o.Ac o.cols.length o.cc, .slice o.Ar o.rows.length o.cr, .slice o.An o.ns.length o.cn, .string o.col, .string o.name, .int .i64 o.ck, .int .i64 o.v.kind, .int .i64 o.v.i, .bool o.v.b, .string o.v.s, .slice o.Af o.fs.length o.cf, .int .i64 o.ver, .int .i64 o.time, .int .i64 o.agg]] w fun e w' => e = .returned (.bool true) ∧ Step w w' := by
  by_cases hz : (applyP t.tb o.op).2 = 0
  · by_cases h1 : o.kind = 1
    · exact twice_k1 t o w hin hop hz h1
    · by_cases h2 : o.kind = 2
      · exact twice_k2 t o w hin hop hz h2
      · exact twice_kr t o w hin hop hz ⟨h1, h2⟩
  · exact twice_no t o w hin hop hz
end Go.Proofs.YtnphokhehacfnaaGreatDoor

