import Derived.Test.YtfojdjmeefglcaaDoorE
import Derived.Deep.RegionHeld3
namespace Go.Proofs.YtfojdjmeefglcaaDoor
open Go.RowKit

set_option maxHeartbeats 1000000 in
theorem add1_any (p b1 b2 base : Nat) (id next kind : Int) (nm : ByteArray) (v : Value) (cols : List Col) (w : World) (hp : Blk w p 24 [.int .i64 id, v, .int .i64 next])
    (h1 : w.cell? ⟨b1, 0, none⟩ = some (.string nm)) (h2 : w.cell? ⟨b2, 0, none⟩ = some (.int .i64 kind)) (hown : Own w base 49 3 v (cols.map Col.cells)) (hlen : cols.length ≤ 4398046511103) (hbase : base ≤ w.heap.size) (l0 : p < base) (l1 : b1 < base) (l2 : b2 < base) :
    Calls Tryd.prog 64 #[.pointer (some ⟨p, 0, none⟩), .pointer (some ⟨b1, 0, none⟩), .pointer (some ⟨b2, 0, none⟩)] w fun e w' => e = .returned (.tuple #[]) ∧
      ∃ A' cap', cols.length + 1 ≤ cap' ∧ cap' ≤ maxLen ∧ Blk w' p 24 [.int .i64 id, .slice A' (cols.length + 1) cap', .int .i64 (wrap64 (next + 1))] ∧ Own w' base 49 3 (.slice A' (cols.length + 1) cap') ((cols ++ [(⟨next, nm, kind⟩ : Col)]).map Col.cells) ∧ Turned w w' p v := by
  obtain ⟨p0, p1, p2⟩ := At.z3 hp.at0
  have f1 := hp.free 1
  have f2 := hp.free 2
  have s0 : p < w.heap.size := by omega
  have s1 : b1 < w.heap.size := by omega
  have s2 : b2 < w.heap.size := by omega
  obtain ⟨o, ho⟩ : ∃ o : Obj, o = .cells #[.int .i64 next, .string nm, .int .i64 kind] 49 := ⟨_, rfl⟩
  have HO : Hid (Own (w.alloc o).drew base 49 3 v (cols.map Col.cells)) := (hown.alloc o).drew
  have HS : Hid (SlAt (w.alloc o).drew (w.alloc o).drew.heap.size 3 (some ⟨w.heap.size, 0, none⟩) [[.int .i64 next, .string nm, .int .i64 kind]]) := by
    rw [ho]; exact SlAt.one w.drew 3 [.int .i64 next, .string nm, .int .i64 kind] 49
  have HF : Hid (Fit 3 [[.int .i64 next, .string nm, .int .i64 kind]]) := cols_fit [⟨next, nm, kind⟩]
  have HP : Hid (Blk (w.alloc o).drew p 24 [.int .i64 id, v, .int .i64 next]) := (hp.alloc o).drew
  have HL : Hid (((cols.map Col.cells).length + [[Value.int .i64 next, .string nm, .int .i64 kind]].length) * 32 ≤ 140737488355328) := by
    show _ ≤ _; simp; omega
  have HB : Hid (base ≤ (w.alloc o).drew.heap.size) := by show _ ≤ _; simp; omega
  have HN : Hid ((cols.map Col.cells).length + [[Value.int .i64 next, .string nm, .int .i64 kind]].length = cols.length + 1) := by show _ = _; simp
  subst ho
  go_enter Tryd.func64, Tryd.ntmps64
  go_wp2
  go_region_law (refine step_append_sl rfl (.tmp 8) (.tmp 16) 22 rfl eiCol (v := v) ?hs1 HO.out (cols_fit _) (A := some ⟨w.heap.size, 0, none⟩) (c := 1) (n := 1) ?hs2 rfl HS.out HF.out HL.out HB.out (N := cols.length + 1) HN.out ?_; (case hs1 => simp [Act.eval]); (case hs2 => simp [Act.eval]); intro A1 cap1 w1 hc1 hc2 hown1 hgr1 hbel1; have hp1 := HP.out.grown hgr1 (HO.out.ne_ HP.out (by decide)); obtain ⟨c0, c1, c2⟩ := At.z3 hp1.at0; have f1' := hp1.free 1; have H1 := hide hp1; have H2 := hide hgr1; have H3 := hide hown1; clear hp1 hgr1 hbel1 hown1)
  all_goals
    have HB2 := hide (H1.out.set_ 1 (.slice A1 (cols.length + 1) cap1))
    have q0 : (w1.setCell ⟨p, 1, none⟩ (.slice A1 (cols.length + 1) cap1)).cell? ⟨p, 2, none⟩ = some (.int .i64 next) := (At.z3 HB2.out.at0).2.2
    have q1 := HB2.out.free 2
    clear h1 h2 p0 p1 p2 f1 f2 c0 c1 c2 f1'
    go_wp2
    go_end0
    refine ⟨rfl, A1, cap1, hc1, hc2, ?_, ?_, ?_⟩
    · exact HB2.out.set_ 2 _
    · rw [List.map_append]
      exact (H3.out.set_other H1.out (by decide) 1 _).set_other HB2.out (by decide) 2 _
    · exact Turned.of_drew (Turned.of_alloc (((Turned.of_grown H2.out).set_ 1 _).set_ 2 _))
end Go.Proofs.YtfojdjmeefglcaaDoor
