/-
  Texts put together: OpV, OpVal, OpRo, OpFd, OpT, Dy.
-/
import Derived.Test.YtnphokhehacfnaaGreatDoorTz90
import Derived.Test.YtnphokhehacfnaaGreatDoorTz91
namespace Go.Proofs.YtnphokhehacfnaaGreatDoor
open Go.ChangeShapes Go.WideShapes Go.ChangeAt Go.RowKit

theorem cells_bool : Tryz.prog.cellsOf 4 = 1 := by kernel_rfl
theorem cells_val : Tryz.prog.cellsOf 36 = 4 := by kernel_rfl
theorem o_bool : Opens Tryz.prog 4 (fun b : Bool => [.bool b]) (fun _ _ => True) := opens_bool Tryz.underlying4
set_option maxRecDepth 100000 in
theorem o_val : Opens Tryz.prog 36 (fun v : Val => [.int .i64 v.kind, .int .i64 v.i, .bool v.b, .string v.s]) (fun _ v => v.s.size ≤ 9223372036854775807) :=
  (opens_struct Tryz.underlying36 (tot := 4) (by kernel_rfl) (opensF_cons (by rfl) cells_int o_int (opensF_cons (by rfl) cells_int o_int (opensF_cons (by rfl) cells_bool o_bool (opensF_cons (by rfl) cells_str o_str (opensF_nil (by rfl))))))).map
    (fun p : Int × Int × Bool × ByteArray × Unit => (⟨p.1, p.2.1, p.2.2.1, p.2.2.2.1⟩ : Val)) (by intro _; rfl) (by intro w p h; have := h.2.2.2.1.1; simpa [maxLen] using this)
set_option maxRecDepth 100000 in
theorem o_vals : Opens Tryz.prog 65 (fun p : Option Addr × Nat × List Val => [.slice p.1 p.2.2.length p.2.1])
    (fun w p => p.2.2.length ≤ p.2.1 ∧ p.2.1 ≤ 3518437208780 ∧ SlAt w w.heap.size 4 p.1 (p.2.2.map Val.cells) ∧ ∀ v ∈ p.2.2, v.s.size ≤ 9223372036854775807) :=
  (opens_slice Tryz.underlying65 (size := 4) (bytes := 40) (by kernel_rfl) (by decide) (by kernel_rfl) (o_val.map id (c' := Val.cells) (fun _ => rfl) (fun _ _ h => h))).map id (fun _ => rfl) (fun w p h => ⟨h.1, by have := h.2.2.1; simp only [reachBytes] at this; simp only [id]; omega, h.2.2.2.1, h.2.2.2.2⟩)

set_option maxRecDepth 100000 in
theorem o_rowV : Opens Tryz.prog 67 (fun p : Option Addr × Nat × List Val => [.slice p.1 p.2.2.length p.2.1])
    (fun w p => p.2.2.length ≤ p.2.1 ∧ p.2.1 ≤ 3518437208780 ∧ SlAt w w.heap.size 4 p.1 (p.2.2.map Val.cells) ∧ ∀ v ∈ p.2.2, v.s.size ≤ 9223372036854775807) :=
  (opens_struct Tryz.underlying67 (tot := 1) (by kernel_rfl) (opensF_cons (by rfl) (show Tryz.prog.cellsOf 65 = 1 by kernel_rfl) o_vals (opensF_nil (by rfl)))).map
    (fun p : (Option Addr × Nat × List Val) × Unit => p.1) (by intro _; rfl) (by intro w p h; exact h.1)
end Go.Proofs.YtnphokhehacfnaaGreatDoor

namespace Go.Proofs.YtnphokhehacfnaaGreatDoor
open Go.ChangeShapes Go.WideShapes Go.ChangeAt Go.RowKit

set_option maxRecDepth 100000 in
theorem o_nod : Opens Tryz.prog 77 Nod.cells (fun _ n => n.col.size ≤ 9223372036854775807 ∧ n.v.s.size ≤ 9223372036854775807) :=
  (opens_struct Tryz.underlying77 (tot := 9) (by kernel_rfl) (opensF_cons (by rfl) cells_int o_int (opensF_cons (by rfl) cells_str o_str (opensF_cons (by rfl) cells_int o_int (opensF_cons (by rfl) cells_val o_val (opensF_cons (by rfl) cells_int o_int (opensF_cons (by rfl) cells_int o_int (opensF_nil (by rfl))))))))).map
    (fun p : Int × ByteArray × Int × Val × Int × Int × Unit => (⟨p.1, p.2.1, p.2.2.1, p.2.2.2.1, p.2.2.2.2.1, p.2.2.2.2.2.1⟩ : Nod)) (by intro _; rfl) (by intro w p h; have := h.2.1.1; exact ⟨by simpa [maxLen] using this, h.2.2.2.1⟩)
set_option maxRecDepth 100000 in
theorem o_nods : Opens Tryz.prog 32 (fun p : Option Addr × Nat × List Nod => [.slice p.1 p.2.2.length p.2.1]) (fun w p => PrIn w p.2.2 p.1 p.2.1) :=
  (opens_slice Tryz.underlying32 (size := 9) (bytes := 88) (by kernel_rfl) (by decide) (by kernel_rfl) o_nod).map id (fun _ => rfl) (fun w p h => by
    have h1 := h.1
    have h2 := h.2.2.1
    simp only [reachBytes] at h2
    exact ⟨h1, by simp only [id]; omega, by simp only [id]; omega, h.2.2.2.1, h.2.2.2.2⟩)
set_option maxRecDepth 100000 in
theorem o_pred : Opens Tryz.prog 34 (fun p : Option Addr × Nat × List Nod => [.slice p.1 p.2.2.length p.2.1]) (fun w p => PrIn w p.2.2 p.1 p.2.1) :=
  (opens_struct Tryz.underlying34 (tot := 1) (by kernel_rfl) (opensF_cons (by rfl) (show Tryz.prog.cellsOf 32 = 1 by kernel_rfl) o_nods (opensF_nil (by rfl)))).map
    (fun p : (Option Addr × Nat × List Nod) × Unit => p.1) (by intro _; rfl) (by intro w p h; exact h.1)
end Go.Proofs.YtnphokhehacfnaaGreatDoor

namespace Go.Proofs.YtnphokhehacfnaaGreatDoor
open Go.ChangeShapes Go.WideShapes Go.ChangeAt Go.RowKit

set_option maxRecDepth 100000 in
theorem o_rowA : Opens Tryz.prog 67 RowA.cells (fun w r => RowIn w r) :=
  o_rowV.map (fun p : Option Addr × Nat × List Val => (⟨p.1, p.2.1, p.2.2⟩ : RowA)) (by intro _; rfl) (by intro w p h; exact ⟨h.1, Nat.le_trans h.1 h.2.1, Nat.le_trans h.2.1 (by decide), h.2.2.1, h.2.2.2⟩)
set_option maxRecDepth 100000 in
theorem o_rows : Opens Tryz.prog 28 (fun p : Option Addr × Nat × List RowA => [.slice p.1 p.2.2.length p.2.1]) (fun w p => RowsIn w p.2.2 p.1 p.2.1) :=
  (opens_slice Tryz.underlying28 (size := 1) (bytes := 24) (by kernel_rfl) (by decide) (by kernel_rfl) o_rowA).map id (fun _ => rfl) (fun w p h => by
    have h1 := h.1
    have h2 := h.2.2.1
    simp only [reachBytes] at h2
    exact ⟨h1, by simp only [id]; omega, by simp only [id]; omega, h.2.2.2.1, h.2.2.2.2⟩)
end Go.Proofs.YtnphokhehacfnaaGreatDoor

namespace Go.Proofs.YtnphokhehacfnaaGreatDoor
open Go.ChangeShapes Go.WideShapes Go.ChangeAt Go.RowKit

set_option maxRecDepth 100000 in
theorem o_fldA : Opens Tryz.prog 92 (fun f : Fld => [.int .i64 f.source, .int .i64 f.trans, .int .i64 f.param]) (fun _ _ => True) :=
  (opens_struct Tryz.underlying92 (tot := 3) (by kernel_rfl) (opensF_cons (by rfl) cells_int o_int (opensF_cons (by rfl) cells_int o_int (opensF_cons (by rfl) cells_int o_int (opensF_nil (by rfl)))))).map
    (fun p : Int × Int × Int × Unit => (⟨p.1, p.2.1, p.2.2.1⟩ : Fld)) (by intro _; rfl) (by intro w p h; trivial)
set_option maxRecDepth 100000 in
theorem o_valF : Opens Tryz.prog 36 (fun v : Val => [.int .i64 v.kind, .int .i64 v.i, .bool v.b, .string v.s]) (fun _ v => v.s.size ≤ 9223372036854775000 ∧ -9223372036854775808 ≤ v.i ∧ v.i ≤ 9223372036854775807) :=
  (opens_struct Tryz.underlying36 (tot := 4) (by kernel_rfl) (opensF_cons (by rfl) cells_int o_int (opensF_cons (by rfl) cells_int o_int (opensF_cons (by rfl) cells_bool o_bool (opensF_cons (by rfl) cells_str o_str (opensF_nil (by rfl))))))).map
    (fun p : Int × Int × Bool × ByteArray × Unit => (⟨p.1, p.2.1, p.2.2.1, p.2.2.2.1⟩ : Val)) (by intro _; rfl) (by
      intro w p h
      have h1 := bounds_i64 h.2.1
      have h2 := h.2.2.2.1.2
      simp only [reachBytes] at h2
      exact ⟨Nat.le_trans h2 (by decide), h1⟩)
end Go.Proofs.YtnphokhehacfnaaGreatDoor

namespace Go.Proofs.YtnphokhehacfnaaGreatDoor
open Go.ChangeShapes Go.WideShapes Go.ChangeAt Go.RowKit

set_option maxRecDepth 100000 in
theorem o_valsD : Opens Tryz.prog 65 (fun p : Option Addr × Nat × List Val => [.slice p.1 p.2.2.length p.2.1])
    (fun w p => p.2.2.length ≤ p.2.1 ∧ p.2.1 ≤ 3518437208780 ∧ SlAt w w.heap.size 4 p.1 (p.2.2.map Val.cells) ∧ ∀ v ∈ p.2.2, FineD v) :=
  (opens_slice Tryz.underlying65 (size := 4) (bytes := 40) (by kernel_rfl) (by decide) (by kernel_rfl) (o_valF.map id (c' := Val.cells) (fun _ => rfl) (fun _ _ h => h))).map id (fun _ => rfl) (fun w p h => ⟨h.1, by have := h.2.2.1; simp only [reachBytes] at this; simp only [id]; omega, h.2.2.2.1, h.2.2.2.2⟩)
set_option maxRecDepth 100000 in
theorem o_rowD : Opens Tryz.prog 67 RowA.cells (fun w r => RowIn w r ∧ ∀ v ∈ r.vs, FineD v) :=
  (opens_struct Tryz.underlying67 (tot := 1) (by kernel_rfl) (opensF_cons (by rfl) (show Tryz.prog.cellsOf 65 = 1 by kernel_rfl) o_valsD (opensF_nil (by rfl)))).map
    (fun p : (Option Addr × Nat × List Val) × Unit => (⟨p.1.1, p.1.2.1, p.1.2.2⟩ : RowA)) (by intro _; rfl) (by intro w p h; exact ⟨⟨h.1.1, Nat.le_trans h.1.1 h.1.2.1, Nat.le_trans h.1.2.1 (by decide), h.1.2.2.1, fun v hv => Nat.le_trans (h.1.2.2.2 v hv).1 (by decide)⟩, h.1.2.2.2⟩)
set_option maxRecDepth 100000 in
theorem o_rowsD : Opens Tryz.prog 28 (fun p : Option Addr × Nat × List RowA => [.slice p.1 p.2.2.length p.2.1]) (fun w p => RowsIn w p.2.2 p.1 p.2.1 ∧ ∀ r ∈ p.2.2, ∀ v ∈ r.vs, FineD v) :=
  (opens_slice Tryz.underlying28 (size := 1) (bytes := 24) (by kernel_rfl) (by decide) (by kernel_rfl) o_rowD).map id (fun _ => rfl) (fun w p h => by
    have h1 := h.1
    have h2 := h.2.2.1
    simp only [reachBytes] at h2
    exact ⟨⟨h1, by simp only [id]; omega, by simp only [id]; omega, h.2.2.2.1, fun r hr => (h.2.2.2.2 r hr).1⟩, fun r hr => (h.2.2.2.2 r hr).2⟩)
set_option maxRecDepth 100000 in
theorem o_fldsD : Opens Tryz.prog 25 (fun p : Option Addr × Nat × List Fld => [.slice p.1 p.2.2.length p.2.1]) (fun w p => FsIn w p.2.2 p.1 p.2.1 ∧ p.2.2.length ≤ 5864062014800) :=
  (opens_slice Tryz.underlying25 (size := 3) (bytes := 24) (by kernel_rfl) (by decide) (by kernel_rfl) (o_fldA.map id (c' := Fld.cells) (Q' := fun _ _ => True) (fun _ => rfl) (fun _ _ _ => trivial))).map id (fun _ => rfl) (fun w p h => by
    have h1 := h.1
    have h2 := h.2.2.1
    simp only [reachBytes] at h2
    exact ⟨⟨h1, by simp only [id]; omega, by simp only [id]; omega, h.2.2.2.1⟩, by simp only [id]; omega⟩)
set_option maxRecDepth 100000 in
theorem o_specD : Opens Tryz.prog 27 (fun p : Int × Option Addr × Nat × List Fld => [.int .i64 p.1, .slice p.2.1 p.2.2.2.length p.2.2.1]) (fun w p => FsIn w p.2.2.2 p.2.1 p.2.2.1 ∧ p.2.2.2.length ≤ 5864062014800) :=
  (opens_struct Tryz.underlying27 (tot := 2) (by kernel_rfl) (opensF_cons (by rfl) cells_int o_int (opensF_cons (by rfl) (show Tryz.prog.cellsOf 25 = 1 by kernel_rfl) o_fldsD (opensF_nil (by rfl))))).map
    (fun p : Int × (Option Addr × Nat × List Fld) × Unit => (p.1, p.2.1)) (by intro _; rfl) (by intro w p h; exact h.2.1)
set_option maxRecDepth 100000 in
theorem o_tab : Opens Tryz.prog 30 TbA.cells (fun w t => TbIn w t) :=
  (opens_struct Tryz.underlying30 (tot := 6) (by kernel_rfl) (opensF_cons (by rfl) (show Tryz.prog.cellsOf 24 = 3 by kernel_rfl) o_sch (opensF_cons (by rfl) (show Tryz.prog.cellsOf 27 = 2 by kernel_rfl) o_specD (opensF_cons (by rfl) (show Tryz.prog.cellsOf 28 = 1 by kernel_rfl) o_rows (opensF_nil (by rfl)))))).map
    (fun p : (Sch × Option Addr × Nat) × (Int × Option Addr × Nat × List Fld) × (Option Addr × Nat × List RowA) × Unit => (⟨p.1.1, p.1.2.1, p.1.2.2, p.2.1.1, p.2.1.2.2.2, p.2.1.2.1, p.2.1.2.2.1, p.2.2.1.2.2, p.2.2.1.1, p.2.2.1.2.1⟩ : TbA)) (by intro _; rfl) (by intro w p h; exact ⟨h.1, h.2.1.1, h.2.1.2, h.2.2.1⟩)
set_option maxRecDepth 100000 in
theorem o_op : Opens Tryz.prog 38 OpA.cells (fun w o => OpIn w o) :=
  (opens_struct Tryz.underlying38 (tot := 16) (by kernel_rfl) (opensF_cons (by rfl) cells_int o_int (opensF_cons (by rfl) cells_str o_str (opensF_cons (by rfl) (show Tryz.prog.cellsOf 31 = 1 by kernel_rfl) o_strs (opensF_cons (by rfl) (show Tryz.prog.cellsOf 28 = 1 by kernel_rfl) o_rowsD (opensF_cons (by rfl) (show Tryz.prog.cellsOf 34 = 1 by kernel_rfl) o_pred (opensF_cons (by rfl) cells_str o_str (opensF_cons (by rfl) cells_str o_str (opensF_cons (by rfl) cells_int o_int (opensF_cons (by rfl) cells_val o_valF (opensF_cons (by rfl) (show Tryz.prog.cellsOf 25 = 1 by kernel_rfl) o_fldsD (opensF_cons (by rfl) cells_int o_int (opensF_cons (by rfl) cells_int o_int (opensF_cons (by rfl) cells_int o_int (opensF_nil (by rfl)))))))))))))))).map
    (fun p : Int × ByteArray × (Option Addr × Nat × List ByteArray) × (Option Addr × Nat × List RowA) × (Option Addr × Nat × List Nod) × ByteArray × ByteArray × Int × Val × (Option Addr × Nat × List Fld) × Int × Int × Int × Unit => (⟨p.1, p.2.1, p.2.2.1.2.2, p.2.2.1.1, p.2.2.1.2.1, p.2.2.2.1.2.2, p.2.2.2.1.1, p.2.2.2.1.2.1, p.2.2.2.2.1.2.2, p.2.2.2.2.1.1, p.2.2.2.2.1.2.1, p.2.2.2.2.2.1, p.2.2.2.2.2.2.1, p.2.2.2.2.2.2.2.1, p.2.2.2.2.2.2.2.2.1, p.2.2.2.2.2.2.2.2.2.1.2.2, p.2.2.2.2.2.2.2.2.2.1.1, p.2.2.2.2.2.2.2.2.2.1.2.1, p.2.2.2.2.2.2.2.2.2.2.1, p.2.2.2.2.2.2.2.2.2.2.2.1, p.2.2.2.2.2.2.2.2.2.2.2.2.1⟩ : OpA)) (by intro _; rfl) (by
      intro w p h
      have h1 := h.2.2.1.1
      have h2 := h.2.2.1.2.1
      have h3 := h.2.2.2.2.2.2.1.1
      exact ⟨h.2.2.1.2.2.1, Nat.le_trans (Nat.le_trans h1 h2) (by decide), h1, h.2.2.2.1.1, h.2.2.2.1.2, h.2.2.2.2.1, h.2.2.2.2.2.2.2.2.2.1.1, h.2.2.2.2.2.2.2.2.2.1.2, h.2.2.2.2.2.2.2.2.1, by simpa [maxLen] using h3⟩)
end Go.Proofs.YtnphokhehacfnaaGreatDoor

namespace Go.Proofs.YtnphokhehacfnaaGreatDoor
open Go.RowKit

set_option maxRecDepth 10000 in
set_option maxHeartbeats 1000000 in
theorem deleteV_any (g cap k n : Nat) (cur : List Value) (cols : List Val) (w : World) (hg : Blk w g 36 cur) (hm : cols.length = n) (hk : k < n) (hcap : n ≤ cap) (hcm : cap ≤ 9223372036854775807)
    (hcur : cur.length = cap * 4) (htake : cur.take (n * 4) = (cols.map Val.cells).flatten) :
    Calls Tryz.prog 145 #[.slice (some ⟨g, 0, none⟩) n cap, .int .i64 k, .int .i64 (k + 1)] w fun e w' =>
      e = .returned (.slice (some ⟨g, 0, none⟩) (n - 1) cap) ∧ (∃ cur', Blk w' g 36 cur' ∧ cur'.length = cap * 4 ∧ cur'.take ((n - 1) * 4) = ((cols.eraseIdx k).map Val.cells).flatten) ∧ w.grownBy w' (some g) := by
  have HMM := hide hm
  obtain ⟨A, hA, hr⟩ : ∃ A : Option Addr, (if cap = k + 1 then some (⟨g, 0, none⟩ : Addr) else some ⟨g, (k + 1) * 4, none⟩) = A ∧ Hid (SlAt w.drew w.drew.heap.size 4 A ((cols.drop (k + 1)).map Val.cells)) := by
    refine ⟨_, rfl, fun hl => ?_⟩
    have hl' : k + 1 < cols.length := by simp at hl; omega
    rw [if_neg (by omega)]
    refine ⟨g, (k + 1) * 4, rfl, hg.lt, fun i cs hi => ?_⟩
    have h1 := At.of_flatten (off := 0) (vals_fit cols).len (At.of_take hg.at0 htake) (k + 1 + i) cs (by simpa using hi)
    rw [Nat.zero_add, Nat.add_mul] at h1
    exact h1
  have hdl : n - (k + 1) = ((cols.drop (k + 1)).map Val.cells).length := by simp [hm]
  have HR : Hid (k + ((cols.drop (k + 1)).map Val.cells).length ≤ cap) := by show _ ≤ _; rw [← hdl]; omega
  have HM := hide hdl; clear hdl
  have HT := hide htake; clear htake
  have HCU := hide hcur; clear hcur hm
  have hwr : IntKind.i64.wrap ((k : Int) + 1) = (k : Int) + 1 := by rw [IntKind.wrap_i64]; omega
  have hp0 : (0 : Int) ≤ (k : Int) + 1 := by omega
  have hp1 : (k : Int) + 1 ≤ (n : Int) := by omega
  have hp2 : ((k : Int) + 1).toNat = k + 1 := by omega
  have hp3 : k ≤ cap := by omega
  go_enter Tryz.func145, Tryz.ntmps145
  go_wp2
  go_region_law (refine step_append_row rfl (.tmp 22) (.tmp 25) 65 rfl eiV4 (g := g) (n := k) (cap := cap) (cur := cur) ?hs1 hg.drew (A := A) (c := cap - (k + 1)) (ys := (cols.drop (k + 1)).map Val.cells) (m := n - (k + 1)) ?hs2 HM.out hr.out (vals_fit _) HR.out HCU.out ?_; (case hs1 => simp [Act.eval, Act.put]); (case hs2 => simp [Act.eval, Act.put]); intro w1 hg1 hgr1)
  clear hwr hp0 hp1 hp2 hA
  have hlen1 : (cur.take (k * 4) ++ ((cols.drop (k + 1)).map Val.cells).flatten ++ cur.drop (k * 4 + ((cols.drop (k + 1)).map Val.cells).flatten.length)).length = cap * 4 := by
    have h1 : ((cols.drop (k + 1)).map Val.cells).flatten.length = (n - 1 - k) * 4 := by rw [flatten_length (vals_fit _).len, ← HM.out]; congr 1; omega
    simp only [List.length_append, List.length_take, List.length_drop, h1, HCU.out]
    omega
  obtain ⟨w2, hrun, hg2, hgr2⟩ := run_clear_row (P := Tryz.prog) (t := 65) (e := 36) (ty := 0) (z := .agg #[.int .i64 0, .int .i64 0, .bool false, .string .empty]) (size := 4) Tryz.underlying65 (fun _ => by kernel_rfl) rfl (by
    intro u hu
    simp [Value.cells] at hu
    rcases hu with rfl | rfl | rfl | rfl <;> rfl) (g := g) (o := (n - 1) * 4) (c := cap - (n - 1)) hg1 (by rw [hlen1]; omega)
  have hsum : k + (n - (k + 1)) = n - 1 := by omega
  have hone : n - (n - 1) = 1 := by omega
  have hne : ¬ cap = n - 1 := by omega
  go_wp2_with fail
  go_ret
  have hF : ((cols.drop (k + 1)).map Val.cells).flatten.length = (n - 1 - k) * 4 := by rw [flatten_length (vals_fit _).len, ← HM.out]; congr 1; omega
  have hk3 : (cur.take (k * 4)).length = k * 4 := by rw [List.length_take, HCU.out]; omega
  refine ⟨rfl, ⟨_, hg2, ?_, ?_⟩, ?_⟩
  · simp only [List.length_append, List.length_take, List.length_drop, hF, HCU.out, Value.cells]
    simp
    omega
  · have e1 : ((n - 1) * 4) = (cur.take (k * 4)).length + ((cols.drop (k + 1)).map Val.cells).flatten.length := by rw [hk3, hF]; omega
    rw [List.append_assoc, List.take_append_of_le_length (by rw [List.length_take, hlen1]; omega), List.take_take, Nat.min_self, take_app3 _ _ _ _ e1]
    have e3 : cur.take (k * 4) = ((cols.map Val.cells).take k).flatten := by
      rw [← flatten_take (vals_fit cols).len, ← HT.out, List.take_take]
      congr 1
      omega
    rw [e3, List.eraseIdx_eq_take_drop_succ, List.map_append, List.flatten_append, List.map_take]
  · exact World.grownBy.trans ⟨hgr1.os, hgr1.tape, hgr1.output, hgr1.size, hgr1.block⟩ hgr2
end Go.Proofs.YtnphokhehacfnaaGreatDoor

