import Derived.Test.YtfojdjmeefglcaaDoorE
namespace Go.Proofs.YtfojdjmeefglcaaDoor
open Go.RowKit

set_option maxHeartbeats 1000000 in
theorem drop1_any (p b1 base k n cap : Nat) (A : Option Addr) (id next : Int) (cols : List Col) (w : World) (hp : Blk w p 24 [.int .i64 id, .slice A n cap, .int .i64 next])
    (h1 : w.cell? ⟨b1, 0, none⟩ = some (.int .i64 k)) (hown : Own w base 49 3 (.slice A n cap) (cols.map Col.cells)) (hn : cols.length = n) (hk : k < n) :
    Calls Tryd.prog 68 #[.pointer (some ⟨p, 0, none⟩), .pointer (some ⟨b1, 0, none⟩)] w fun e w' => e = .returned (.tuple #[]) ∧
      Blk w' p 24 [.int .i64 id, .slice A (n - 1) cap, .int .i64 next] ∧ Own w' base 49 3 (.slice A (n - 1) cap) ((cols.eraseIdx k).map Col.cells) ∧ Turned w w' p (.slice A n cap) := by
  have hne := hown.ne_ hp (by decide)
  obtain ⟨g, cur, rfl, _, hgb, hg, hnc, hcm, hcs, htake⟩ := hown.blk (by simp; omega)
  obtain ⟨p0, p1, p2⟩ := At.z3 hp.at0
  have f1 := hp.free 1
  have l0 := hp.lt
  simp only [maxLen] at hcm
  have hwr : IntKind.i64.wrap ((k : Int) + 1) = (k : Int) + 1 := by rw [IntKind.wrap_i64]; omega
  have HD : Hid (Calls Tryd.prog 69 #[.slice (some ⟨g, 0, none⟩) n cap, .int .i64 k, .int .i64 (k + 1)] w.drew fun e w' =>
      e = .returned (.slice (some ⟨g, 0, none⟩) (n - 1) cap) ∧ (∃ cur', Blk w' g 49 cur' ∧ cur'.length = cap * 3 ∧ cur'.take ((n - 1) * 3) = ((cols.eraseIdx k).map Col.cells).flatten) ∧ w.drew.grownBy w' (some g)) :=
    delete_any g cap k n cur cols w.drew hg.drew hn hk hnc hcm hcs htake
  have HG := hide hne
  have HP := hide hp
  clear hp hg hne htake hcs hown
  go_enter Tryd.func68, Tryd.ntmps68
  go_wp2
  go_region_law (first | (go_simp; go_at_call 69; refine HD.out.mono ?_; rintro e w1 ⟨rfl, hcur, hgr⟩; have hp1 := HP.out.drew.grown hgr (by simpa [Value.ownBlock] using HG.out); obtain ⟨c0, c1, c2⟩ := At.z3 hp1.at0; have f1' := hp1.free 1; have H1 := hide hp1; have H2 := hide hgr; have H3 := hide hcur; clear hp1 hgr hcur))
  all_goals
    have HB2 := hide (H1.out.set_ 1 (.slice (some ⟨g, 0, none⟩) (n - 1) cap))
    clear h1 p0 p1 p2 f1 c0 c1 c2 f1' hwr
    go_wp2
    go_end0
    obtain ⟨cur', k1, k2, k3⟩ := H3.out
    refine ⟨rfl, ?_, ?_, ?_⟩
    · exact HB2.out
    · exact (Own.of_blk k1 hgb (by simp [List.length_eraseIdx, hn, hk]) (cols_fit _).len (by omega) (by simp only [maxLen]; exact hcm) k2 k3).set_other H1.out (by decide) 1 _
    · exact (Turned.of_drew (Turned.of_grown (by simpa [Value.ownBlock] using H2.out))).set_ 1 _
end Go.Proofs.YtfojdjmeefglcaaDoor
