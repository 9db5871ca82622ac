/-
  Slices of Values: copied, held against one another, lent, kept, spoiled.
-/
import Derived.Test.YtinpnginjpfbpaaDoorBase
import Derived.Test.YtinpnginjpfbpaaDoorV
import Derived.Deep.RegionHeld3
namespace Go.Proofs.YtinpnginjpfbpaaDoor
open Go.RowKit

theorem eiVal : EI Tryd.prog 45 57 4 40 :=
  ⟨Tryd.underlying45, info_parts (show (Tryd.prog.info? 57).map (fun i => (i.zero, i.size, i.bytes)) = some (some (.agg #[.int .i64 0, .int .i64 0, .bool false, .string .empty]), 4, 40) by kernel_rfl) |>.elim fun i h => ⟨i, _, h.1, h.2.1, h.2.2.1, h.2.2.2, rfl⟩, by decide, by decide⟩

/-- What marks the room behind a slice that is lent. -/
def Val.mark : Val := ⟨77777, 0, false, .empty⟩

theorem sameValues_any {w1 w2 : World} (l : List Val) (A1 A2 : Option Addr) (c1 c2 : Nat) (w : World) (h1 : SlAt w1 w1.heap.size 4 A1 (l.map Val.cells)) (h2 : SlAt w2 w2.heap.size 4 A2 (l.map Val.cells)) [f1 : Fut w1 w] [f2 : Fut w2 w] (hl : l.length ≤ 4611686018427387904) :
    Calls Tryd.prog 28 #[.slice A1 l.length c1, .slice A2 l.length c2] w fun e w' => e = .returned (.bool true) ∧ Step w w' := by
  have z1 := f1.below.size
  have z2 := f2.below.size
  go_enter Tryd.func28, Tryd.ntmps28
  go_wp2
  go_loopw [5] (fun i wr => ∃ k : Nat, k ≤ l.length ∧ i = .int .i64 k ∧ Step w wr) (fun i _ => l.length - (intOf i).toNat)
  case atStart => exact ⟨0, Nat.zero_le _, rfl, Step.of⟩
  case round =>
    obtain ⟨k, hk, rfl, hs⟩ := hrel
    by_cases hlt : k < l.length
    · obtain ⟨b1, o1, rfl, hb1, hc1⟩ := h1.elem (w' := wr) inferInstance (k := k) (by simpa using hlt)
      obtain ⟨b2, o2, rfl, hb2, hc2⟩ := h2.elem (w' := wr) inferInstance (k := k) (by simpa using hlt)
      obtain ⟨x, hx⟩ : ∃ x, l[k]? = some x := ⟨_, List.getElem?_eq_getElem hlt⟩
      obtain ⟨p0, p1, p2, p3⟩ := At.l4 (hc1 k x.cells (by simp [hx]))
      obtain ⟨q0, q1, q2, q3⟩ := At.l4 (hc2 k x.cells (by simp [hx]))
      clear hc1 hc2 hx
      go_wp2
      go_quiet (fail)
      go_wp2
      go_roundw
      case rel => exact ⟨k + 1, by omega, by go_num, Step.of⟩
      case measure => simp [intOf]; omega
    · go_wp2_with fail
      go_ret
      exact ⟨rfl, hs⟩

theorem copyValues_any {w0 : World} (l : List Val) (A : Option Addr) (c : Nat) (w : World) (h : SlAt w0 w0.heap.size 4 A (l.map Val.cells)) [hf : Fut w0 w] (hl : l.length * 40 ≤ 140737488355328) :
    Calls Tryd.prog 34 #[.slice A l.length c] w fun e w' => ∃ A' c', e = .returned (.slice A' l.length c') ∧ l.length ≤ c' ∧ c' ≤ maxLen ∧ Own w' w.heap.size 57 4 (.slice A' l.length c') (l.map Val.cells) ∧ Step w w' := by
  have hat := h.fut (w' := w.alloc (.cells #[] 57))
  go_enter Tryd.func34, Tryd.ntmps34
  go_wp2_with (at_builtin; refine wpList_append_sl rfl (.tmp 3) (.tmp 4) 45 rfl eiVal (base := w.heap.size) (xs := []) rfl ?own Fit.nil_ (ys := l.map Val.cells) rfl (by simp) hat (vals_fit _) (by simp; omega) (by simp) (N := l.length) (by simp) ?_; rotate_left; intro A' cap' w' hc1 hc2 hown _ hbel)
  case own => exact ⟨by simp, .inr ⟨w.heap.size, 0, #[], rfl, Nat.le_refl _, heap_alloc_new w _, by simp, by simp, by simp, by simp⟩⟩
  go_ret
  exact ⟨_, _, rfl, hc1, hc2, hown, ⟨(below_a1 w _).trans hbel⟩⟩

set_option maxHeartbeats 1000000 in
theorem lendValues_any {w0 : World} (l : List Val) (A : Option Addr) (c : Nat) (w : World) (h : SlAt w0 w0.heap.size 4 A (l.map Val.cells)) [hf : Fut w0 w] (hl : (l.length + 2) * 40 ≤ 140737488355328) :
    Calls Tryd.prog 17 #[.slice A l.length c] w fun e w' => ∃ A' c', e = .returned (.slice A' l.length c') ∧ l.length + 2 ≤ c' ∧ c' ≤ 9223372036854775807 ∧ SlAt w' w'.heap.size 4 A' ((l ++ [Val.mark, Val.mark]).map Val.cells) ∧ Abv w.heap.size A' ∧ Step w w' := by
  go_enter Tryd.func17, Tryd.ntmps17
  go_wp2_with fail
  refine (copyValues_any l A c w h (by omega)).mono ?_
  rintro e w1 ⟨A1, c1, rfl, h1, h2, hown, hs1⟩
  have H1 := hide hown; clear hown
  have hz := hs1.size
  have HY := hide (SlAt.new (w := w1) (size := 4) (l := [Val.mark, Val.mark].map Val.cells) (cs := Val.mark.cells ++ Val.mark.cells) (t := 57) rfl (vals_fit _).len)
  go_wp2_with (at_builtin; refine wpList_append_sl rfl (.tmp 5) (.tmp 8) 45 rfl eiVal (base := w.heap.size) (xs := l.map Val.cells) rfl (H1.out.alloc _) (vals_fit _) (ys := [Val.mark, Val.mark].map Val.cells) rfl (by simp) HY.out (vals_fit _) (by simp; omega) (by simp; omega) (N := l.length + 2) (by simp) ?_; intro A2 c2 w2 hc1 hc2 hown2 hgr2 hbel2; obtain ⟨g, cur, rfl, _, _, _, _, _, _, _⟩ := hown2.blk (by simp); have H2 := hide hown2; have HG := hide hbel2; clear hown2 hgr2 hbel2)
  simp only [maxLen] at hc2
  go_wp2_with fail
  go_ret
  exact ⟨_, _, rfl, hc1, hc2, by rw [List.map_append]; exact H2.out.sl ((vals_fit _).app (vals_fit _)).len, H2.out.abv, ⟨(fut w (w1.alloc _)).trans HG.out⟩⟩

theorem keptValues_any {w1 w2 : World} (l : List Val) (A1 A2 : Option Addr) (c1 c2 : Nat) (w : World) (h1 : SlAt w1 w1.heap.size 4 A1 ((l ++ [Val.mark, Val.mark]).map Val.cells)) (h2 : SlAt w2 w2.heap.size 4 A2 (l.map Val.cells)) [f1 : Fut w1 w] [f2 : Fut w2 w]
    (hl : l.length + 2 ≤ c1) (_hm : c1 ≤ 9223372036854775807) (hn : l.length ≤ 4611686018427387904) :
    Calls Tryd.prog 31 #[.slice A1 l.length c1, .slice A2 l.length c2] w fun e w' => e = .returned (.bool true) ∧ Step w w' := by
  have hp : SlAt w1 w1.heap.size 4 A1 (l.map Val.cells) := by rw [List.map_append] at h1; exact h1.pre
  obtain ⟨b, o, rfl, hb, hc⟩ := h1.elem f1 (k := 0) (by simp)
  have z1 := f1.below.size
  have HC := hide hc; clear hc
  go_enter Tryd.func31, Tryd.ntmps31
  go_wp2_with fail
  refine (sameValues_any l _ _ _ _ _ hp h2 hn).mono ?_
  rintro e w3 ⟨rfl, hs3⟩
  have q := (fut w w3)
  obtain ⟨p0, p1, p2, p3⟩ := At.l4 ((HC.out l.length [.int .i64 77777, .int .i64 0, .bool false, .string .empty] (by simp [Val.mark, Val.cells])).below q (by omega))
  obtain ⟨q0, q1, q2, q3⟩ := At.l4 ((HC.out (l.length + 1) [.int .i64 77777, .int .i64 0, .bool false, .string .empty] (by simp [Val.mark, Val.cells])).below q (by omega))
  clear q
  go_wp2_with fail
  go_ret
  exact ⟨rfl, Step.of⟩
end Go.Proofs.YtinpnginjpfbpaaDoor
