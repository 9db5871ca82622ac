import Derived.Test.YtfojdjmeefglcaaDoorE
import Derived.BigRegion
namespace Go.Proofs.YtfojdjmeefglcaaDoor
open Go.RowKit

theorem setName_length (cols : List Col) (k : Nat) (to : ByteArray) : (setName cols k to).length = cols.length := by simp [setName]
theorem setName_cells (to : ByteArray) : ∀ (cols : List Col) (k : Nat), k < cols.length → (cols.map Col.cells).flatten.set (k * 3 + 1) (.string to) = ((setName cols k to).map Col.cells).flatten
  | [], _, h => by simp at h
  | c :: r, 0, _ => by simp [setName, Col.cells]
  | c :: r, k + 1, h => by
    have ih := setName_cells to r k (by simpa using h)
    simp only [setName] at ih
    simp only [setName, List.map_cons, List.flatten_cons, List.modify_succ_cons, ← ih]
    rw [show (k + 1) * 3 + 1 = c.cells.length + (k * 3 + 1) by simp [Col.cells]; omega, List.set_append_right _ _ (by omega)]
    simp

set_option maxHeartbeats 1000000 in
theorem rename1_any (p b1 b2 base k n cap : Nat) (A : Option Addr) (id next : Int) (to : ByteArray) (cols : List Col) (w : World) (hp : Blk w p 24 [.int .i64 id, .slice A n cap, .int .i64 next])
    (h1 : w.cell? ⟨b1, 0, none⟩ = some (.string to)) (h2 : w.cell? ⟨b2, 0, none⟩ = some (.int .i64 k)) (hown : Own w base 49 3 (.slice A n cap) (cols.map Col.cells)) (hn : cols.length = n) (hk : k < n) :
    Calls Tryd.prog 70 #[.pointer (some ⟨p, 0, none⟩), .pointer (some ⟨b1, 0, none⟩), .pointer (some ⟨b2, 0, none⟩)] w fun e w' => e = .returned (.tuple #[]) ∧
      Blk w' p 24 [.int .i64 id, .slice A n cap, .int .i64 next] ∧ Own w' base 49 3 (.slice A n cap) ((setName cols k to).map Col.cells) ∧ Turned w w' p (.slice A n cap) := by
  have hne := hown.ne_ hp (by decide)
  obtain ⟨g, cur, rfl, _, hgb, hg, hnc, hcm, hcs, htake⟩ := hown.blk (by simp; omega)
  obtain ⟨p0, p1, p2⟩ := At.z3 hp.at0
  simp only [maxLen] at hcm
  have hkc : k < cap := by omega
  have hf := hg.free (k * 3 + 1)
  obtain ⟨u, hu⟩ : ∃ u, w.cell? ⟨g, k * 3 + 1, none⟩ = some u := by
    have := hg.at0 (k * 3 + 1) (cur[k * 3 + 1]'(by omega)) (by simp)
    rw [Nat.zero_add] at this
    exact ⟨_, this⟩
  have HG := hide hne
  have HP := hide hp
  have HB := hide hg
  have HCS := hide hcs
  have HT := hide htake
  clear hp hg hne htake hcs hown
  go_enter Tryd.func70, Tryd.ntmps70
  go_wp2
  go_region
  all_goals
    go_wp2
    go_end0
    have k1 := HB.out.drew.set_ (k * 3 + 1) (.string to)
    have hpg : p ≠ g := fun e => HG.out (by simp [Value.ownBlock, e])
    refine ⟨rfl, ?_, ?_, ?_⟩
    · exact HP.out.drew.far (p := ⟨g, k * 3 + 1, none⟩) hpg _
    · refine Own.of_blk k1 hgb (by simp [setName_length, hn]) (cols_fit _).len hnc (by simp only [maxLen]; exact hcm) (by simpa using HCS.out) ?_
      rw [List.take_set, HT.out, setName_cells to cols k (by omega)]
    · exact ⟨rfl, rfl, rfl, by simp [World.setCell], fun j hj _ hn => Below.heap_setCell w.drew _ _ j (fun e => hn (by simp [Value.ownBlock, e]))⟩
end Go.Proofs.YtfojdjmeefglcaaDoor
