import Derived.Test.YtfojdjmeefglcaaDoorD
import Derived.Test.YtfojdjmeefglcaaDoorGen
namespace Go.Proofs.YtfojdjmeefglcaaDoor
open Go.RowKit

set_option maxRecDepth 10000 in
set_option maxHeartbeats 1000000 in
theorem delete_any (g cap k n : Nat) (cur : List Value) (cols : List Col) (w : World) (hg : Blk w g 49 cur) (hm : cols.length = n) (hk : k < n) (hcap : n ≤ cap) (hcm : cap ≤ 9223372036854775807)
    (hcur : cur.length = cap * 3) (htake : cur.take (n * 3) = (cols.map Col.cells).flatten) :
    Calls Tryd.prog 69 #[.slice (some ⟨g, 0, none⟩) n cap, .int .i64 k, .int .i64 (k + 1)] w fun e w' =>
      e = .returned (.slice (some ⟨g, 0, none⟩) (n - 1) cap) ∧ (∃ cur', Blk w' g 49 cur' ∧ cur'.length = cap * 3 ∧ cur'.take ((n - 1) * 3) = ((cols.eraseIdx k).map Col.cells).flatten) ∧ w.grownBy w' (some g) := by
  have HMM := hide hm
  obtain ⟨A, hA, hr⟩ : ∃ A : Option Addr, (if cap = k + 1 then some (⟨g, 0, none⟩ : Addr) else some ⟨g, (k + 1) * 3, none⟩) = A ∧ Hid (SlAt w.drew w.drew.heap.size 3 A ((cols.drop (k + 1)).map Col.cells)) := by
    refine ⟨_, rfl, fun hl => ?_⟩
    have hl' : k + 1 < cols.length := by simp at hl; omega
    rw [if_neg (by omega)]
    refine ⟨g, (k + 1) * 3, rfl, hg.lt, fun i cs hi => ?_⟩
    have h1 := At.of_flatten (off := 0) (cols_fit cols).len (At.of_take hg.at0 htake) (k + 1 + i) cs (by simpa using hi)
    rw [Nat.zero_add, Nat.add_mul] at h1
    exact h1
  have hdl : n - (k + 1) = ((cols.drop (k + 1)).map Col.cells).length := by simp [hm]
  have HR : Hid (k + ((cols.drop (k + 1)).map Col.cells).length ≤ cap) := by show _ ≤ _; rw [← hdl]; omega
  have HM := hide hdl; clear hdl
  have HT := hide htake; clear htake
  have HCU := hide hcur; clear hcur hm
  have hwr : IntKind.i64.wrap ((k : Int) + 1) = (k : Int) + 1 := by rw [IntKind.wrap_i64]; omega
  have hp0 : (0 : Int) ≤ (k : Int) + 1 := by omega
  have hp1 : (k : Int) + 1 ≤ (n : Int) := by omega
  have hp2 : ((k : Int) + 1).toNat = k + 1 := by omega
  have hp3 : k ≤ cap := by omega
  go_enter Tryd.func69, Tryd.ntmps69
  go_wp2
  go_region_law (refine step_append_row rfl (.tmp 22) (.tmp 25) 22 rfl eiCol (g := g) (n := k) (cap := cap) (cur := cur) ?hs1 hg.drew (A := A) (c := cap - (k + 1)) (ys := (cols.drop (k + 1)).map Col.cells) (m := n - (k + 1)) ?hs2 HM.out hr.out (cols_fit _) HR.out HCU.out ?_; (case hs1 => simp [Act.eval, Act.put]); (case hs2 => simp [Act.eval, Act.put]); intro w1 hg1 hgr1)
  clear hwr hp0 hp1 hp2 hA
  have hlen1 : (cur.take (k * 3) ++ ((cols.drop (k + 1)).map Col.cells).flatten ++ cur.drop (k * 3 + ((cols.drop (k + 1)).map Col.cells).flatten.length)).length = cap * 3 := by
    have h1 : ((cols.drop (k + 1)).map Col.cells).flatten.length = (n - 1 - k) * 3 := by rw [flatten_length (cols_fit _).len, ← HM.out]; congr 1; omega
    simp only [List.length_append, List.length_take, List.length_drop, h1, HCU.out]
    omega
  obtain ⟨w2, hrun, hg2, hgr2⟩ := run_clear_row (P := Tryd.prog) (t := 22) (e := 49) (ty := 0) (z := .agg #[.int .i64 0, .string .empty, .int .i64 0]) (size := 3) Tryd.underlying22 (fun _ => by kernel_rfl) rfl (by
    intro u hu
    simp [Value.cells] at hu
    rcases hu with rfl | rfl | rfl <;> rfl) (g := g) (o := (n - 1) * 3) (c := cap - (n - 1)) hg1 (by rw [hlen1]; omega)
  have hsum : k + (n - (k + 1)) = n - 1 := by omega
  have hone : n - (n - 1) = 1 := by omega
  have hne : ¬ cap = n - 1 := by omega
  go_wp2_with fail
  go_ret
  have hF : ((cols.drop (k + 1)).map Col.cells).flatten.length = (n - 1 - k) * 3 := by rw [flatten_length (cols_fit _).len, ← HM.out]; congr 1; omega
  have hk3 : (cur.take (k * 3)).length = k * 3 := by rw [List.length_take, HCU.out]; omega
  refine ⟨rfl, ⟨_, hg2, ?_, ?_⟩, ?_⟩
  · simp only [List.length_append, List.length_take, List.length_drop, hF, HCU.out, Value.cells]
    simp
    omega
  · have e1 : ((n - 1) * 3) = (cur.take (k * 3)).length + ((cols.drop (k + 1)).map Col.cells).flatten.length := by rw [hk3, hF]; omega
    rw [List.append_assoc, List.take_append_of_le_length (by rw [List.length_take, hlen1]; omega), List.take_take, Nat.min_self, take_app3 _ _ _ _ e1]
    have e3 : cur.take (k * 3) = ((cols.map Col.cells).take k).flatten := by
      rw [← flatten_take (cols_fit cols).len, ← HT.out, List.take_take]
      congr 1
      omega
    rw [e3, List.eraseIdx_eq_take_drop_succ, List.map_append, List.flatten_append, List.map_take]
  · exact World.grownBy.trans ⟨hgr1.os, hgr1.tape, hgr1.output, hgr1.size, hgr1.block⟩ hgr2
end Go.Proofs.YtfojdjmeefglcaaDoor
