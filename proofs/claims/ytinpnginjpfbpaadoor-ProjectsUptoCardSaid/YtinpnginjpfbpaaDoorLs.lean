/-
  Schemas lent, held against one another, kept.
-/
import Derived.Test.YtinpnginjpfbpaaDoorRb
import Derived.Test.YtinpnginjpfbpaaDoorFlCol
namespace Go.Proofs.YtinpnginjpfbpaaDoor
open Go.RowKit

/-- A schema whose columns lie in a place with marked room behind them. -/
structure LentS (w : World) (s : Sch) (A : Option Addr) (c : Nat) : Prop where
  room : s.cols.length + 2 ≤ c
  capm : c ≤ 9223372036854775807
  len : s.cols.length ≤ 4398046511102
  at_ : SlAt w w.heap.size 3 A ((s.cols ++ [Col.mark, Col.mark]).map Col.cells)
  names : ∀ c ∈ s.cols, c.name.size ≤ 9223372036854775807
theorem LentS.sin {w : World} {s : Sch} {A : Option Addr} {c : Nat} (h : LentS w s A c) : SchIn w s A c :=
  ⟨by have := h.room; omega, h.capm, h.len, by have := h.at_; rw [List.map_append] at this; exact this.pre, h.names⟩

set_option maxHeartbeats 1000000 in
theorem lendSchema_any {w0 : World} (s : Sch) (A : Option Addr) (cap : Nat) (w : World) (h : SchIn w0 s A cap) [hf : Fut w0 w] :
    Calls Tryd.prog 4 #[s.val A cap] w fun e w' => ∃ A' c', e = .returned (s.val A' c') ∧ LentS w' s A' c' ∧ Step w w' := by
  have hat := h.at_
  have hl := h.len
  have HNM := hide h.names
  obtain ⟨id, cols, nx⟩ := s
  simp only [Sch.val] at hat hl ⊢
  have HB := hide (((Blks.nil_ w).push 24 [.int .i64 id, .slice A cols.length cap, .int .i64 nx]).push 24 [.int .i64 0, .slice none 0 0, .int .i64 0])
  simp only [hsz] at HB
  go_enter Tryd.func4, Tryd.ntmps4
  go_wp2_with fail
  refine (lendColumns_any cols A cap _ hat (by omega)).mono ?_
  rintro e w1 ⟨A1, c1, rfl, h1, h2, hs, hab, hs1⟩
  obtain ⟨b1, b0, _⟩ := Blks.after hs1.below HB.out
  obtain ⟨p0, p1, p2⟩ := At.z3 b0.at0
  obtain ⟨r0, r1, r2⟩ := At.z3 b1.at0
  have f0 := b0.free
  have f1 := b1.free
  have s1 : w.heap.size < w1.heap.size := b0.lt
  have s2 : w.heap.size + 1 < w1.heap.size := b1.lt
  have B0 := hide b0; have B1 := hide b1; clear b0 b1
  have HS := hide hs; clear hs
  go_wp2_with fail
  have W2 := hide (((B1.out.far (p := ⟨w.heap.size, 1, none⟩) (by simp) (.slice A1 cols.length c1)).set_ 0 (.int .i64 id)).set_ 1 (.slice A1 cols.length c1) |>.set_ 2 (.int .i64 nx))
  obtain ⟨t0, t1, t2⟩ := At.z3 W2.out.at0
  refine bodyPost_ret (v := .agg #[.int .i64 id, .slice A1 cols.length c1, .int .i64 nx]) (by simp [results, Tryd.results4, go_sem, t0, t1, t2]) rfl ?_
  refine ⟨A1, c1, rfl, ⟨h1, h2, hl, ?_, HNM.out⟩, Step.of⟩
  simp only [hsz] at hab
  exact (((HS.out.put hab (by omega) _).put hab (by omega) _).put hab (by omega) _).put hab (by omega) _

theorem keptSchema_any {w1 w2 : World} (s : Sch) (A1 A2 : Option Addr) (c1 c2 : Nat) (w : World) (h1 : LentS w1 s A1 c1) (h2 : SchIn w2 s A2 c2) [f1 : Fut w1 w] [f2 : Fut w2 w] :
    Calls Tryd.prog 13 #[s.val A1 c1, s.val A2 c2] w fun e w' => e = .returned (.bool true) ∧ Step w w' := by
  have hat1 := h1.at_
  have hat2 := h2.at_
  have hl := h1.len
  have hr := h1.room
  have hm := h1.capm
  obtain ⟨id, cols, nx⟩ := s
  simp only [Sch.val] at hat1 hat2 hl hr ⊢
  go_enter Tryd.func13, Tryd.ntmps13
  go_wp2_with fail
  refine (keptColumns_any cols A1 A2 c1 c2 _ hat1 hat2 hr hm (by omega)).mono ?_
  rintro e w3 ⟨rfl, hs3⟩
  go_wp2_with fail
  go_ret
  exact ⟨rfl, Step.of⟩
set_option maxHeartbeats 1000000 in
theorem lendSchemaO_any {w0 : World} (s : Sch) (A : Option Addr) (cap : Nat) (w : World) (h : SchIn w0 s A cap) [hf : Fut w0 w] :
    Calls Tryd.prog 4 #[s.val A cap] w fun e w' => ∃ A' c', e = .returned (s.val A' c') ∧ LentS w' s A' c' ∧ Abv w.heap.size A' ∧ Step w w' := by
  have hat := h.at_
  have hl := h.len
  have HNM := hide h.names
  obtain ⟨id, cols, nx⟩ := s
  simp only [Sch.val] at hat hl ⊢
  have HB := hide (((Blks.nil_ w).push 24 [.int .i64 id, .slice A cols.length cap, .int .i64 nx]).push 24 [.int .i64 0, .slice none 0 0, .int .i64 0])
  simp only [hsz] at HB
  go_enter Tryd.func4, Tryd.ntmps4
  go_wp2_with fail
  refine (lendColumns_any cols A cap _ hat (by omega)).mono ?_
  rintro e w1 ⟨A1, c1, rfl, h1, h2, hs, hab, hs1⟩
  obtain ⟨b1, b0, _⟩ := Blks.after hs1.below HB.out
  obtain ⟨p0, p1, p2⟩ := At.z3 b0.at0
  obtain ⟨r0, r1, r2⟩ := At.z3 b1.at0
  have f0 := b0.free
  have f1 := b1.free
  have s1 : w.heap.size < w1.heap.size := b0.lt
  have s2 : w.heap.size + 1 < w1.heap.size := b1.lt
  have B0 := hide b0; have B1 := hide b1; clear b0 b1
  have HS := hide hs; clear hs
  go_wp2_with fail
  have W2 := hide (((B1.out.far (p := ⟨w.heap.size, 1, none⟩) (by simp) (.slice A1 cols.length c1)).set_ 0 (.int .i64 id)).set_ 1 (.slice A1 cols.length c1) |>.set_ 2 (.int .i64 nx))
  obtain ⟨t0, t1, t2⟩ := At.z3 W2.out.at0
  refine bodyPost_ret (v := .agg #[.int .i64 id, .slice A1 cols.length c1, .int .i64 nx]) (by simp [results, Tryd.results4, go_sem, t0, t1, t2]) rfl ?_
  simp only [hsz] at hab
  refine ⟨A1, c1, rfl, ⟨h1, h2, hl, ?_, HNM.out⟩, hab.mono (by omega), Step.of⟩
  exact (((HS.out.put hab (by omega) _).put hab (by omega) _).put hab (by omega) _).put hab (by omega) _
end Go.Proofs.YtinpnginjpfbpaaDoor
