/-
  The document's own answer: Copy, Add, Drop, Rename of schemas.
-/
import Derived.Test.YtfojdjmeefglcaaDoorLs
import Derived.Test.YtfojdjmeefglcaaDoorK
import Derived.Test.YtfojdjmeefglcaaDoorL
import Derived.Test.YtfojdjmeefglcaaDoorM
namespace Go.Proofs.YtfojdjmeefglcaaDoor
open Go.RowKit

set_option maxHeartbeats 1000000 in
theorem rcopy_any {w0 : World} (s : Sch) (A : Option Addr) (cap : Nat) (w : World) (h : SchIn w0 s A cap) [hf : Fut w0 w] :
    Calls Tryd.prog 67 #[s.val A cap] w fun e w' => ∃ A' c', e = .returned (s.val A' c') ∧ s.cols.length ≤ c' ∧ c' ≤ maxLen ∧ Own w' w.heap.size 49 3 (.slice A' s.cols.length c') (s.cols.map Col.cells) ∧ Step w w' := by
  have hat := h.at_
  have hl := h.len
  obtain ⟨id, cols, nx⟩ := s
  simp only [Sch.val] at hat hl ⊢
  have HB := hide ((((Blks.nil_ w).push 24 [.int .i64 id, .slice A cols.length cap, .int .i64 nx]).push 24 [.int .i64 0, .slice none 0 0, .int .i64 0]).push 49 [])
  simp only [hsz] at HB
  have HA := hide (hat.fut (w' := ((w.alloc (.cells #[.int .i64 id, .slice A cols.length cap, .int .i64 nx] 24)).alloc (.cells #[.int .i64 0, .slice none 0 0, .int .i64 0] 24)).alloc (.cells #[] 49)))
  go_enter Tryd.func67, Tryd.ntmps67
  go_wp2_with (at_builtin; refine wpList_append_sl rfl (.tmp 3) (.tmp 5) 22 rfl eiCol (base := w.heap.size + 2) (xs := []) rfl ?own Fit.nil_ (ys := cols.map Col.cells) rfl (by simp) HA.out (cols_fit _) (by simp; omega) (by simp) (N := cols.length) (by simp) ?_; rotate_left; intro A1 c1 w1 hc1 hc2 hown _ hbel; have H1 := hide hown; clear hown; obtain ⟨_, b1, b0, _⟩ := HB.out; have HB1 := hide (b1.below hbel (by omega)); have HB0 := hide (b0.below hbel (by omega)); clear b1 b0; have HBL := hide hbel; clear hbel; obtain ⟨p0, p1, p2⟩ := At.z3 HB0.out.at0; obtain ⟨r0, r1, r2⟩ := At.z3 HB1.out.at0; have f0 := HB0.out.free; have f1 := HB1.out.free; have s1 : w.heap.size < w1.heap.size := HB0.out.lt; have s2 : w.heap.size + 1 < w1.heap.size := HB1.out.lt)
  case own => exact ⟨by simp, .inr ⟨w.heap.size + 2, 0, #[], rfl, Nat.le_refl _, by simpa [Blk] using HB.out.1, by simp, by simp, by simp, by simp⟩⟩
  have W2 := hide (((HB1.out.far (p := ⟨w.heap.size, 1, none⟩) (by simp) (.slice A1 cols.length c1)).set_ 0 (.int .i64 id)).set_ 1 (.slice A1 cols.length c1) |>.set_ 2 (.int .i64 nx))
  obtain ⟨t0, t1, t2⟩ := At.z3 W2.out.at0
  refine bodyPost_ret (v := .agg #[.int .i64 id, .slice A1 cols.length c1, .int .i64 nx]) (by simp [results, Tryd.results67, go_sem, t0, t1, t2]) rfl ?_
  refine ⟨A1, c1, rfl, hc1, hc2, ?_, ⟨?_⟩⟩
  · have k0 := HB0.out
    have k1 := HB1.out.far (p := ⟨w.heap.size, 1, none⟩) (by simp) (.slice A1 cols.length c1)
    exact ((((H1.out.set_other k0 (by decide) 1 _).set_other k1 (by decide) 0 _).set_other (k1.set_ 0 _) (by decide) 1 _).set_other ((k1.set_ 0 _).set_ 1 _) (by decide) 2 _).more (by omega)
  · have hw : Below w.heap.size w w1 := (((below_a1 w _).alloc (by simp) _).alloc (by simp; omega) _).trans (HBL.out.mono (by omega))
    exact (((hw.setCell (Nat.le_refl _) _).setCell (by simp) _).setCell (by simp) _).setCell (by simp) _
end Go.Proofs.YtfojdjmeefglcaaDoor
