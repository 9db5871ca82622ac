/-
  LendSchema, and where it lies.
-/
import Derived.Test.YtcgpfllkbflbhaaDoorLs
namespace Go.Proofs.YtcgpfllkbflbhaaDoor
open Go.RowKit

set_option maxHeartbeats 1000000 in
theorem lendSchemaO_any {w0 : World} (s : Sch) (A : Option Addr) (cap : Nat) (w : World) (h : SchIn w0 s A cap) [hf : Fut w0 w] :
    Calls Tryd.prog 15 #[s.val A cap] w fun e w' => ∃ A' c', e = .returned (s.val A' c') ∧ LentS w' s A' c' ∧ Abv w.heap.size A' ∧ Step w w' := by
  have hat := h.at_
  have hl := h.len
  have HNM := hide h.names
  obtain ⟨id, cols, nx⟩ := s
  simp only [Sch.val] at hat hl ⊢
  have HB := hide (((Blks.nil_ w).push 27 [.int .i64 id, .slice A cols.length cap, .int .i64 nx]).push 27 [.int .i64 0, .slice none 0 0, .int .i64 0])
  simp only [hsz] at HB
  go_enter Tryd.func15, Tryd.ntmps15
  go_wp2_with fail
  refine (lendColumns_any cols A cap _ hat (by omega)).mono ?_
  rintro e w1 ⟨A1, c1, rfl, h1, h2, hs, hab, hs1⟩
  obtain ⟨b1, b0, _⟩ := Blks.after hs1.below HB.out
  obtain ⟨p0, p1, p2⟩ := At.z3 b0.at0
  obtain ⟨r0, r1, r2⟩ := At.z3 b1.at0
  have f0 := b0.free
  have f1 := b1.free
  have s1 : w.heap.size < w1.heap.size := b0.lt
  have s2 : w.heap.size + 1 < w1.heap.size := b1.lt
  have B0 := hide b0; have B1 := hide b1; clear b0 b1
  have HS := hide hs; clear hs
  go_wp2_with fail
  have W2 := hide (((B1.out.far (p := ⟨w.heap.size, 1, none⟩) (by simp) (.slice A1 cols.length c1)).set_ 0 (.int .i64 id)).set_ 1 (.slice A1 cols.length c1) |>.set_ 2 (.int .i64 nx))
  obtain ⟨t0, t1, t2⟩ := At.z3 W2.out.at0
  refine bodyPost_ret (v := .agg #[.int .i64 id, .slice A1 cols.length c1, .int .i64 nx]) (by simp [results, Tryd.results15, go_sem, t0, t1, t2]) rfl ?_
  simp only [hsz] at hab
  refine ⟨A1, c1, rfl, ⟨h1, h2, hl, ?_, HNM.out⟩, hab.mono (by omega), Step.of⟩
  exact (((HS.out.put hab (by omega) _).put hab (by omega) _).put hab (by omega) _).put hab (by omega) _
end Go.Proofs.YtcgpfllkbflbhaaDoor
