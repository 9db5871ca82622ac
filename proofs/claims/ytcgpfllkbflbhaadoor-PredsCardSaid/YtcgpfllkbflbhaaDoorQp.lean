/-
  The law Preds answers true for every predicate, schema and row.
-/
import Derived.Test.YtcgpfllkbflbhaaDoorQt
import Derived.Test.YtcgpfllkbflbhaaDoorQc
import Derived.Test.YtcgpfllkbflbhaaDoorLo
import Derived.Test.YtcgpfllkbflbhaaDoorFlVal
import Derived.Test.YtcgpfllkbflbhaaDoorPl
namespace Go.Proofs.YtcgpfllkbflbhaaDoor
open Go.RowKit

/-- The predicate and the schema that are lent, before they are laid into their places .. -/
structure Lnt0 (W wx : World) (ns : List Nod) (s : Sch) (g7 g8 : Nat) (A7 : Option Addr) (c7 : Nat) (A8 : Option Addr) (c8 : Nat) : Prop where
  xb : Blk wx g7 24 [.slice none 0 0]
  yb : Blk wx g8 27 [.int .i64 0, .slice none 0 0, .int .i64 0]
  xo : Own wx W.heap.size 55 9 (.slice A7 ns.length c7) (ns.map Nod.cells)
  ys : LentS wx s A8 c8
  yn : ∀ b o, A8 = some ⟨b, o, none⟩ → b ≠ g7 ∧ b ≠ g8
  ne : g7 ≠ g8
  lx : W.heap.size ≤ g7
  ly : W.heap.size ≤ g8
  st : Step W wx
/-- .. and behind it. -/
structure Lnt (W wx : World) (ns : List Nod) (s : Sch) (g7 g8 : Nat) (A7 : Option Addr) (c7 : Nat) (A8 : Option Addr) (c8 : Nat) : Prop where
  xb : Blk wx g7 24 [.slice A7 ns.length c7]
  yb : Blk wx g8 27 [.int .i64 s.id, .slice A8 s.cols.length c8, .int .i64 s.next]
  xo : Own wx W.heap.size 55 9 (.slice A7 ns.length c7) (ns.map Nod.cells)
  ys : LentS wx s A8 c8
  st : Step W wx
theorem SlAt.off {w : World} {size g o : Nat} {A : Option Addr} {l : List (List Value)} (h : SlAt w w.heap.size size A l) (hne : ∀ b o, A = some ⟨b, o, none⟩ → b ≠ g) (u : Value) : SlAt (w.setCell ⟨g, o, none⟩ u) (w.setCell ⟨g, o, none⟩ u).heap.size size A l := by
  intro hl
  obtain ⟨b, off, e, hlt, hc⟩ := h hl
  have hz : (w.setCell ⟨g, o, none⟩ u).heap.size = w.heap.size := by simp [World.setCell]
  exact ⟨b, off, e, by rw [hz]; exact hlt, fun i cs hi => (hc i cs hi).far (hne b off e) u⟩
theorem LentS.off {w : World} {s : Sch} {g o : Nat} {A : Option Addr} {c : Nat} (h : LentS w s A c) (hne : ∀ b o, A = some ⟨b, o, none⟩ → b ≠ g) (u : Value) : LentS (w.setCell ⟨g, o, none⟩ u) s A c := ⟨h.room, h.capm, h.len, h.at_.off hne u, h.names⟩
theorem LentS.fut {w w' : World} {s : Sch} {A : Option Addr} {c : Nat} (h : LentS w s A c) [k : Fut w w'] : LentS w' s A c := ⟨h.room, h.capm, h.len, h.at_.fut, h.names⟩
theorem LentS.lt_at {w : World} {s : Sch} {A : Option Addr} {c b o : Nat} (h : LentS w s A c) (e : A = some ⟨b, o, none⟩) : b < w.heap.size := by
  obtain ⟨b', o', e', hlt, _⟩ := h.at_ (by simp)
  rw [e] at e'
  injection e' with e'
  injection e' with e1
  omega
theorem Lnt0.done {W wx : World} {ns : List Nod} {s : Sch} {g7 g8 : Nat} {A7 : Option Addr} {c7 : Nat} {A8 : Option Addr} {c8 : Nat} (h : Lnt0 W wx ns s g7 g8 A7 c7 A8 c8) :
    Lnt W ((((wx.setCell ⟨g7, 0, none⟩ (.slice A7 ns.length c7)).setCell ⟨g8, 0, none⟩ (.int .i64 s.id)).setCell ⟨g8, 1, none⟩ (.slice A8 s.cols.length c8)).setCell ⟨g8, 2, none⟩ (.int .i64 s.next)) ns s g7 g8 A7 c7 A8 c8 := by
  have x1 := h.xb.set_ 0 (.slice A7 ns.length c7)
  have y1 := h.yb.far (p := ⟨g7, 0, none⟩) (Ne.symm h.ne) (.slice A7 ns.length c7)
  have o1 := h.xo.set_other h.xb (by show (55 : Nat) ≠ 24; decide) 0 (.slice A7 ns.length c7)
  refine ⟨((x1.far (p := ⟨g8, 0, none⟩) h.ne _).far (p := ⟨g8, 1, none⟩) h.ne _).far (p := ⟨g8, 2, none⟩) h.ne _, ((y1.set_ 0 _).set_ 1 _).set_ 2 _, o1.store3 y1 (by show (55 : Nat) ≠ 27; decide) _ _ _,
    (((h.ys.off (fun b o e => (h.yn b o e).1) _).off (fun b o e => (h.yn b o e).2) _).off (fun b o e => (h.yn b o e).2) _).off (fun b o e => (h.yn b o e).2) _, ⟨?_⟩⟩
  exact below3 (h.st.below.setCell (p := ⟨g7, 0, none⟩) h.lx _) h.ly _ _ _
theorem colsT_len (ns : List Nod) : (colsT ns).length ≤ ns.length := by
  unfold colsT
  split
  · exact cols_len ns
  · simp

set_option maxRecDepth 100000 in
set_option maxHeartbeats 32000000 in
theorem preds_any (ns : List Nod) (A : Option Addr) (cap : Nat) (s : Sch) (As : Option Addr) (cs : Nat) (vs : List Val) (Av : Option Addr) (cv : Nat) (w : World) (hp : PrIn w ns A cap) (hs : SchIn w s As cs)
    (hv : SlAt w w.heap.size 4 Av (vs.map Val.cells)) (hvl : (vs.length + 2) * 40 ≤ 140737488355328) (hvs : ∀ v ∈ vs, v.s.size ≤ 9223372036854775807) :
    Calls Tryd.prog 3 #[.agg #[.slice A ns.length cap], .agg #[.int .i64 s.id, .slice As s.cols.length cs, .int .i64 s.next], .agg #[.slice Av vs.length cv]] w fun e w' => e = .returned (.bool true) ∧ Step w w' := by
  have hl := hp.len
  have HVS := hide hvs
  clear hvs
  obtain ⟨W, hW⟩ : ∃ W, W = ((w.alloc (.cells #[.slice A ns.length cap] 24)).alloc (.cells #[.int .i64 s.id, .slice As s.cols.length cs, .int .i64 s.next] 27)).alloc (.cells #[.slice Av vs.length cv] 30) := ⟨_, rfl⟩
  have SW : Step w W := by rw [hW]; exact Step.of
  have HPW : Hid (Blk W w.heap.size 24 [.slice A ns.length cap]) := by rw [hW]; exact ((Blk.new w [.slice A ns.length cap] 24).alloc _).alloc _
  have HSW : Hid (Blk W (w.heap.size + 1) 27 [.int .i64 s.id, .slice As s.cols.length cs, .int .i64 s.next]) := by rw [hW]; exact (Blk.new_at (by simp) [.int .i64 s.id, .slice As s.cols.length cs, .int .i64 s.next] 27).alloc _
  have HRW : Hid (Blk W (w.heap.size + 1 + 1) 30 [.slice Av vs.length cv]) := by rw [hW]; exact Blk.new_at (by simp) [.slice Av vs.length cv] 30
  have HZW : Hid (W.heap.size = w.heap.size + 1 + 1 + 1) := by rw [hW]; show _ = _; simp
  have HW := hide hW
  clear hW
  have HL1 := hide (fun w' [Fut w w'] => lent_any ns A cap w' hp)
  have hl3 := fun w' [Fut w w'] => lendSchemaO_any s As cs w' hs
  unfold Sch.val at hl3
  have HL3 := hide hl3; clear hl3
  go_enter Tryd.func3, Tryd.ntmps3
  go_upto_region 1 with (fail)
  rw [← HW.out]
  have hzw := HZW.out
  go_cut [7, 8] from 15 to 18 (fun x y wx => ∃ (g7 g8 : Nat) (A7 : Option Addr) (c7 : Nat) (A8 : Option Addr) (c8 : Nat), x = .pointer (some ⟨g7, 0, none⟩) ∧ y = .pointer (some ⟨g8, 0, none⟩) ∧ Lnt W wx ns s g7 g8 A7 c7 A8 c8)
  case first =>
    have p0 := At.z1 HPW.out.at0; have lp : w.heap.size < W.heap.size := by omega
    obtain ⟨q0, q1, q2⟩ := At.z3 HSW.out.at0; have lq : w.heap.size + 1 < W.heap.size := by omega
    clear hzw
    refine wp_region_held_drew (S := (fun w' => Step W w' ∧ (∀ b o, b < W.heap.size → w'.cell? ⟨b, o, none⟩ = W.cell? ⟨b, o, none⟩))) (by kernel_rfl) (by (try dsimp only); (first | exact ⟨hS1, hS2⟩ | exact ⟨Step.of, (bcell (fut _ _)).1⟩)) (fun hHeld => ?_)
    refine wpAnyH_take (i := 0) (oi := ⟨some 15, _, _, _, _, _⟩) (v := ?_) rfl (by kernel_rfl) (by kernel_rfl) (by kernel_rfl) (fun _ _ _ h => h) (Or.inl ⟨by rfl, ?_⟩) (by assumption) ?_
    rotate_left
    · ((intro w hSw); (try dsimp only at hSw); go_simp; (try with_reducible rfl))
    (try simp only [Act.put, List.setIfInBounds_toArray, List.set_cons_zero, List.set_cons_succ])
    refine wpAnyH_take (i := 2) (oi := ⟨some 17, _, _, _, _, _⟩) (v := ?_) rfl (by kernel_rfl) (by kernel_rfl) (by kernel_rfl) (fun _ _ _ h => h) (Or.inl ⟨by rfl, ?_⟩) (by assumption) ?_
    rotate_left
    · ((intro w hSw); (try dsimp only at hSw); go_simp; (try with_reducible rfl))
    (try simp only [Act.put, List.setIfInBounds_toArray, List.set_cons_zero, List.set_cons_succ])
    refine wpAnyH_ready (rs := [1, 4, 5]) (by kernel_rfl) (by simp) ?_
    refine AllReadyH.cons (o := ⟨some 16, _, _, _, _, _⟩) rfl (fun K hK => ?_) (AllReadyH.cons (o := ⟨some 7, _, _, _, _, _⟩) rfl (fun K hK => ?_) (AllReadyH.cons (o := ⟨some 8, _, _, _, _, _⟩) rfl (fun K hK => ?_) AllReadyH.nil))
    · obtain ⟨hS1, hS2⟩ := hHeld
      go_simp
      (go_at_call 14; (with_reducible refine (HL1.out _).mono ?_); intro e w5 hr5; obtain ⟨A7, c7, rfl, ho5, hs5⟩ := hr5; have z5 := hs5.size; (try simp only [hdz] at z5); (try simp only [hsz] at z5); (try simp only [hdz] at z5); have HO5 := hide ho5; clear ho5)
      refine hK.out _ _ (by (try dsimp only); (first | exact ⟨hS1, hS2⟩ | exact ⟨Step.of, (bcell (fut _ _)).1⟩)) (fun hHeld => ?_)
      clear hK K
      (try simp only [Act.put, List.setIfInBounds_toArray, List.set_cons_zero, List.set_cons_succ])
      refine wpAnyH_ready (rs := [3, 4, 5]) (by kernel_rfl) (by simp) ?_
      refine AllReadyH.cons (o := ⟨some 18, _, _, _, _, _⟩) rfl (fun K hK => ?_) (AllReadyH.cons (o := ⟨some 7, _, _, _, _, _⟩) rfl (fun K hK => ?_) (AllReadyH.cons (o := ⟨some 8, _, _, _, _, _⟩) rfl (fun K hK => ?_) AllReadyH.nil))
      · obtain ⟨hS1, hS2⟩ := hHeld
        go_simp
        (go_at_call 15; (with_reducible refine (HL3.out _).mono ?_); intro e w6 hr6; obtain ⟨A8, c8, rfl, hl6, hab6, hs6⟩ := hr6; have z6 := hs6.size; (try simp only [hdz] at z6); (try simp only [hsz] at z6); (try simp only [hdz] at z6); have HL6 := hide hl6; have HA6 := hide hab6; clear hl6 hab6)
        refine hK.out _ _ (by (try dsimp only); (first | exact ⟨hS1, hS2⟩ | exact ⟨Step.of, (bcell (fut _ _)).1⟩)) (fun hHeld => ?_)
        clear hK K
        (try simp only [Act.put, List.setIfInBounds_toArray, List.set_cons_zero, List.set_cons_succ])
        refine wpAnyH_ready (rs := [4, 5]) (by kernel_rfl) (by simp) ?_
        refine AllReadyH.cons (o := ⟨some 7, _, _, _, _, _⟩) rfl (fun K hK => ?_) (AllReadyH.cons (o := ⟨some 8, _, _, _, _, _⟩) rfl (fun K hK => ?_) AllReadyH.nil)
        · go_simp
          refine hK.out _ _ (by (try dsimp only); (exact ⟨Step.of, (bcell (fut _ _)).1⟩)) (fun hHeld => ?_)
          clear hK K
          (try simp only [Act.put, List.setIfInBounds_toArray, List.set_cons_zero, List.set_cons_succ])
          refine wpAnyH_ready (rs := [5]) (by kernel_rfl) (by simp) ?_
          refine AllReadyH.cons (o := ⟨some 8, _, _, _, _, _⟩) rfl (fun K hK => ?_) AllReadyH.nil
          go_simp
          refine hK.out _ _ (by (try dsimp only); (exact ⟨Step.of, (bcell (fut _ _)).1⟩)) (fun hHeld => ?_)
          clear hK K
          (try simp only [Act.put, List.setIfInBounds_toArray, List.set_cons_zero, List.set_cons_succ])
          refine wpAnyH_ready (rs := [6]) (by kernel_rfl) (by simp) ?_
          refine AllReadyH.cons (o := ⟨none, _, _, _, _, _⟩) rfl (fun K hK => ?_) AllReadyH.nil
          go_simp
          refine hK.out _ _ (by (try dsimp only); (exact ⟨Step.of, (bcell (fut _ _)).1⟩)) (fun hHeld => ?_)
          clear hK K
          (try simp only [Act.put, List.setIfInBounds_toArray, List.set_cons_zero, List.set_cons_succ])
          refine wpAnyH_ready (rs := [7]) (by kernel_rfl) (by simp) ?_
          refine AllReadyH.cons (o := ⟨none, _, _, _, _, _⟩) rfl (fun K hK => ?_) AllReadyH.nil
          go_simp
          refine hK.out _ _ (by (try dsimp only); (exact ⟨Step.of, (bcell (fut _ _)).1⟩)) (fun hHeld => ?_)
          clear hK K
          (try simp only [Act.put, List.setIfInBounds_toArray, List.set_cons_zero, List.set_cons_succ])
          refine wpAnyH_done (by kernel_rfl) ?_ _
          go_wp2_with fail
          go_meet
          case rel =>
            have hd := Lnt0.done (W := W) (s := s) (ns := ns) (g7 := w6.heap.size) (g8 := w6.heap.size + 1) (A7 := A7) (c7 := c7) (A8 := A8) (c8 := c8) (wx := ((w6.alloc (.cells #[.slice none 0 0] 24)).alloc (.cells #[.int .i64 0, .slice none 0 0, .int .i64 0] 27))) ⟨(Blk.new w6 [.slice none 0 0] 24).fut, (Blk.new_at (w := (w6.alloc (.cells #[.slice none 0 0] 24))) (b := w6.heap.size + 1) (by simp) [.int .i64 0, .slice none 0 0, .int .i64 0] 27).fut, (HO5.out.more (base' := W.heap.size) (by (try simp only [hdz]); (try simp only [hsz]); (try simp only [hdz]); omega)).fut, HL6.out.fut, (fun b o e => by
              have k1 := HA6.out b o e
              (try simp only [hdz] at k1); (try simp only [hsz] at k1); (try simp only [hdz] at k1)
              have k2 := HL6.out.lt_at e
              omega), by omega, by omega, by omega, Step.of⟩
            refine ⟨w6.heap.size, w6.heap.size + 1, A7, c7, A8, c8, rfl, rfl, ?_⟩
            first | exact hd | (revert hd; go_simp)
        · go_simp
          refine hK.out _ _ (by (try dsimp only); (exact ⟨Step.of, (bcell (fut _ _)).1⟩)) (fun hHeld => ?_)
          clear hK K
          (try simp only [Act.put, List.setIfInBounds_toArray, List.set_cons_zero, List.set_cons_succ])
          refine wpAnyH_ready (rs := [4]) (by kernel_rfl) (by simp) ?_
          refine AllReadyH.cons (o := ⟨some 7, _, _, _, _, _⟩) rfl (fun K hK => ?_) AllReadyH.nil
          go_simp
          refine hK.out _ _ (by (try dsimp only); (exact ⟨Step.of, (bcell (fut _ _)).1⟩)) (fun hHeld => ?_)
          clear hK K
          (try simp only [Act.put, List.setIfInBounds_toArray, List.set_cons_zero, List.set_cons_succ])
          refine wpAnyH_ready (rs := [6]) (by kernel_rfl) (by simp) ?_
          refine AllReadyH.cons (o := ⟨none, _, _, _, _, _⟩) rfl (fun K hK => ?_) AllReadyH.nil
          go_simp
          refine hK.out _ _ (by (try dsimp only); (exact ⟨Step.of, (bcell (fut _ _)).1⟩)) (fun hHeld => ?_)
          clear hK K
          (try simp only [Act.put, List.setIfInBounds_toArray, List.set_cons_zero, List.set_cons_succ])
          refine wpAnyH_ready (rs := [7]) (by kernel_rfl) (by simp) ?_
          refine AllReadyH.cons (o := ⟨none, _, _, _, _, _⟩) rfl (fun K hK => ?_) AllReadyH.nil
          go_simp
          refine hK.out _ _ (by (try dsimp only); (exact ⟨Step.of, (bcell (fut _ _)).1⟩)) (fun hHeld => ?_)
          clear hK K
          (try simp only [Act.put, List.setIfInBounds_toArray, List.set_cons_zero, List.set_cons_succ])
          refine wpAnyH_done (by kernel_rfl) ?_ _
          go_wp2_with fail
          go_meet
          case rel =>
            have hd := Lnt0.done (W := W) (s := s) (ns := ns) (g7 := w6.heap.size + 1) (g8 := w6.heap.size) (A7 := A7) (c7 := c7) (A8 := A8) (c8 := c8) (wx := ((w6.alloc (.cells #[.int .i64 0, .slice none 0 0, .int .i64 0] 27)).alloc (.cells #[.slice none 0 0] 24))) ⟨(Blk.new_at (w := (w6.alloc (.cells #[.int .i64 0, .slice none 0 0, .int .i64 0] 27))) (b := w6.heap.size + 1) (by simp) [.slice none 0 0] 24).fut, (Blk.new w6 [.int .i64 0, .slice none 0 0, .int .i64 0] 27).fut, (HO5.out.more (base' := W.heap.size) (by (try simp only [hdz]); (try simp only [hsz]); (try simp only [hdz]); omega)).fut, HL6.out.fut, (fun b o e => by
              have k1 := HA6.out b o e
              (try simp only [hdz] at k1); (try simp only [hsz] at k1); (try simp only [hdz] at k1)
              have k2 := HL6.out.lt_at e
              omega), by omega, by omega, by omega, Step.of⟩
            refine ⟨w6.heap.size + 1, w6.heap.size, A7, c7, A8, c8, rfl, rfl, ?_⟩
            first | exact hd | (revert hd; go_simp)
      · go_simp
        refine hK.out _ _ (by (try dsimp only); (exact ⟨Step.of, (bcell (fut _ _)).1⟩)) (fun hHeld => ?_)
        clear hK K
        (try simp only [Act.put, List.setIfInBounds_toArray, List.set_cons_zero, List.set_cons_succ])
        refine wpAnyH_ready (rs := [3, 5]) (by kernel_rfl) (by simp) ?_
        refine AllReadyH.cons (o := ⟨some 18, _, _, _, _, _⟩) rfl (fun K hK => ?_) (AllReadyH.cons (o := ⟨some 8, _, _, _, _, _⟩) rfl (fun K hK => ?_) AllReadyH.nil)
        · obtain ⟨hS1, hS2⟩ := hHeld
          go_simp
          (go_at_call 15; (with_reducible refine (HL3.out _).mono ?_); intro e w6 hr6; obtain ⟨A8, c8, rfl, hl6, hab6, hs6⟩ := hr6; have z6 := hs6.size; (try simp only [hdz] at z6); (try simp only [hsz] at z6); (try simp only [hdz] at z6); have HL6 := hide hl6; have HA6 := hide hab6; clear hl6 hab6; have hx_ := (Blk.new w5 [.slice none 0 0] 24).fut (w' := w6); have x0 := At.z1 hx_.at0; have fx := hx_.free; have lx := hx_.lt; have HBxw6 := hide hx_; clear hx_)
          refine hK.out _ _ (by (try dsimp only); (first | exact ⟨hS1, hS2⟩ | exact ⟨Step.of, (bcell (fut _ _)).1⟩)) (fun hHeld => ?_)
          clear hK K
          (try simp only [Act.put, List.setIfInBounds_toArray, List.set_cons_zero, List.set_cons_succ])
          refine wpAnyH_ready (rs := [5]) (by kernel_rfl) (by simp) ?_
          refine AllReadyH.cons (o := ⟨some 8, _, _, _, _, _⟩) rfl (fun K hK => ?_) AllReadyH.nil
          go_simp
          refine hK.out _ _ (by (try dsimp only); (exact ⟨Step.of, (bcell (fut _ _)).1⟩)) (fun hHeld => ?_)
          clear hK K
          (try simp only [Act.put, List.setIfInBounds_toArray, List.set_cons_zero, List.set_cons_succ])
          refine wpAnyH_ready (rs := [6]) (by kernel_rfl) (by simp) ?_
          refine AllReadyH.cons (o := ⟨none, _, _, _, _, _⟩) rfl (fun K hK => ?_) AllReadyH.nil
          go_simp
          refine hK.out _ _ (by (try dsimp only); (exact ⟨Step.of, (bcell (fut _ _)).1⟩)) (fun hHeld => ?_)
          clear hK K
          (try simp only [Act.put, List.setIfInBounds_toArray, List.set_cons_zero, List.set_cons_succ])
          refine wpAnyH_ready (rs := [7]) (by kernel_rfl) (by simp) ?_
          refine AllReadyH.cons (o := ⟨none, _, _, _, _, _⟩) rfl (fun K hK => ?_) AllReadyH.nil
          go_simp
          refine hK.out _ _ (by (try dsimp only); (exact ⟨Step.of, (bcell (fut _ _)).1⟩)) (fun hHeld => ?_)
          clear hK K
          (try simp only [Act.put, List.setIfInBounds_toArray, List.set_cons_zero, List.set_cons_succ])
          refine wpAnyH_done (by kernel_rfl) ?_ _
          go_wp2_with fail
          go_meet
          case rel =>
            have hd := Lnt0.done (W := W) (s := s) (ns := ns) (g7 := w5.heap.size) (g8 := w6.heap.size) (A7 := A7) (c7 := c7) (A8 := A8) (c8 := c8) (wx := (w6.alloc (.cells #[.int .i64 0, .slice none 0 0, .int .i64 0] 27))) ⟨(Blk.new w5 [.slice none 0 0] 24).fut, (Blk.new w6 [.int .i64 0, .slice none 0 0, .int .i64 0] 27).fut, (HO5.out.more (base' := W.heap.size) (by (try simp only [hdz]); (try simp only [hsz]); (try simp only [hdz]); omega)).fut, HL6.out.fut, (fun b o e => by
              have k1 := HA6.out b o e
              (try simp only [hdz] at k1); (try simp only [hsz] at k1); (try simp only [hdz] at k1)
              have k2 := HL6.out.lt_at e
              omega), by omega, by omega, by omega, Step.of⟩
            refine ⟨w5.heap.size, w6.heap.size, A7, c7, A8, c8, rfl, rfl, ?_⟩
            first | exact hd | (revert hd; go_simp)
        · go_simp
          refine hK.out _ _ (by (try dsimp only); (exact ⟨Step.of, (bcell (fut _ _)).1⟩)) (fun hHeld => ?_)
          clear hK K
          (try simp only [Act.put, List.setIfInBounds_toArray, List.set_cons_zero, List.set_cons_succ])
          refine wpAnyH_ready (rs := [3]) (by kernel_rfl) (by simp) ?_
          refine AllReadyH.cons (o := ⟨some 18, _, _, _, _, _⟩) rfl (fun K hK => ?_) AllReadyH.nil
          obtain ⟨hS1, hS2⟩ := hHeld
          go_simp
          (go_at_call 15; (with_reducible refine (HL3.out _).mono ?_); intro e w6 hr6; obtain ⟨A8, c8, rfl, hl6, hab6, hs6⟩ := hr6; have z6 := hs6.size; (try simp only [hdz] at z6); (try simp only [hsz] at z6); (try simp only [hdz] at z6); have HL6 := hide hl6; have HA6 := hide hab6; clear hl6 hab6; have hx_ := (Blk.new w5 [.slice none 0 0] 24).fut (w' := w6); have x0 := At.z1 hx_.at0; have fx := hx_.free; have lx := hx_.lt; have HBxw6 := hide hx_; clear hx_; have hy_ := (Blk.new_at (w := (w5.alloc (.cells #[.slice none 0 0] 24))) (b := w5.heap.size + 1) (by simp) [.int .i64 0, .slice none 0 0, .int .i64 0] 27).fut (w' := w6); obtain ⟨y0, y1, y2⟩ := At.z3 hy_.at0; have fy := hy_.free; have ly := hy_.lt; have HByw6 := hide hy_; clear hy_)
          refine hK.out _ _ (by (try dsimp only); (first | exact ⟨hS1, hS2⟩ | exact ⟨Step.of, (bcell (fut _ _)).1⟩)) (fun hHeld => ?_)
          clear hK K
          (try simp only [Act.put, List.setIfInBounds_toArray, List.set_cons_zero, List.set_cons_succ])
          refine wpAnyH_ready (rs := [6]) (by kernel_rfl) (by simp) ?_
          refine AllReadyH.cons (o := ⟨none, _, _, _, _, _⟩) rfl (fun K hK => ?_) AllReadyH.nil
          go_simp
          refine hK.out _ _ (by (try dsimp only); (exact ⟨Step.of, (bcell (fut _ _)).1⟩)) (fun hHeld => ?_)
          clear hK K
          (try simp only [Act.put, List.setIfInBounds_toArray, List.set_cons_zero, List.set_cons_succ])
          refine wpAnyH_ready (rs := [7]) (by kernel_rfl) (by simp) ?_
          refine AllReadyH.cons (o := ⟨none, _, _, _, _, _⟩) rfl (fun K hK => ?_) AllReadyH.nil
          go_simp
          refine hK.out _ _ (by (try dsimp only); (exact ⟨Step.of, (bcell (fut _ _)).1⟩)) (fun hHeld => ?_)
          clear hK K
          (try simp only [Act.put, List.setIfInBounds_toArray, List.set_cons_zero, List.set_cons_succ])
          refine wpAnyH_done (by kernel_rfl) ?_ _
          go_wp2_with fail
          go_meet
          case rel =>
            have hd := Lnt0.done (W := W) (s := s) (ns := ns) (g7 := w5.heap.size) (g8 := w5.heap.size + 1) (A7 := A7) (c7 := c7) (A8 := A8) (c8 := c8) (wx := w6) ⟨(Blk.new w5 [.slice none 0 0] 24).fut, (Blk.new_at (w := (w5.alloc (.cells #[.slice none 0 0] 24))) (b := w5.heap.size + 1) (by simp) [.int .i64 0, .slice none 0 0, .int .i64 0] 27).fut, (HO5.out.more (base' := W.heap.size) (by (try simp only [hdz]); (try simp only [hsz]); (try simp only [hdz]); omega)).fut, HL6.out.fut, (fun b o e => by
              have k1 := HA6.out b o e
              (try simp only [hdz] at k1); (try simp only [hsz] at k1); (try simp only [hdz] at k1)
              have k2 := HL6.out.lt_at e
              omega), by omega, by omega, by omega, Step.of⟩
            refine ⟨w5.heap.size, w5.heap.size + 1, A7, c7, A8, c8, rfl, rfl, ?_⟩
            first | exact hd | (revert hd; go_simp)
      · go_simp
        refine hK.out _ _ (by (try dsimp only); (exact ⟨Step.of, (bcell (fut _ _)).1⟩)) (fun hHeld => ?_)
        clear hK K
        (try simp only [Act.put, List.setIfInBounds_toArray, List.set_cons_zero, List.set_cons_succ])
        refine wpAnyH_ready (rs := [3, 4]) (by kernel_rfl) (by simp) ?_
        refine AllReadyH.cons (o := ⟨some 18, _, _, _, _, _⟩) rfl (fun K hK => ?_) (AllReadyH.cons (o := ⟨some 7, _, _, _, _, _⟩) rfl (fun K hK => ?_) AllReadyH.nil)
        · obtain ⟨hS1, hS2⟩ := hHeld
          go_simp
          (go_at_call 15; (with_reducible refine (HL3.out _).mono ?_); intro e w6 hr6; obtain ⟨A8, c8, rfl, hl6, hab6, hs6⟩ := hr6; have z6 := hs6.size; (try simp only [hdz] at z6); (try simp only [hsz] at z6); (try simp only [hdz] at z6); have HL6 := hide hl6; have HA6 := hide hab6; clear hl6 hab6; have hy_ := (Blk.new w5 [.int .i64 0, .slice none 0 0, .int .i64 0] 27).fut (w' := w6); obtain ⟨y0, y1, y2⟩ := At.z3 hy_.at0; have fy := hy_.free; have ly := hy_.lt; have HByw6 := hide hy_; clear hy_)
          refine hK.out _ _ (by (try dsimp only); (first | exact ⟨hS1, hS2⟩ | exact ⟨Step.of, (bcell (fut _ _)).1⟩)) (fun hHeld => ?_)
          clear hK K
          (try simp only [Act.put, List.setIfInBounds_toArray, List.set_cons_zero, List.set_cons_succ])
          refine wpAnyH_ready (rs := [4]) (by kernel_rfl) (by simp) ?_
          refine AllReadyH.cons (o := ⟨some 7, _, _, _, _, _⟩) rfl (fun K hK => ?_) AllReadyH.nil
          go_simp
          refine hK.out _ _ (by (try dsimp only); (exact ⟨Step.of, (bcell (fut _ _)).1⟩)) (fun hHeld => ?_)
          clear hK K
          (try simp only [Act.put, List.setIfInBounds_toArray, List.set_cons_zero, List.set_cons_succ])
          refine wpAnyH_ready (rs := [6]) (by kernel_rfl) (by simp) ?_
          refine AllReadyH.cons (o := ⟨none, _, _, _, _, _⟩) rfl (fun K hK => ?_) AllReadyH.nil
          go_simp
          refine hK.out _ _ (by (try dsimp only); (exact ⟨Step.of, (bcell (fut _ _)).1⟩)) (fun hHeld => ?_)
          clear hK K
          (try simp only [Act.put, List.setIfInBounds_toArray, List.set_cons_zero, List.set_cons_succ])
          refine wpAnyH_ready (rs := [7]) (by kernel_rfl) (by simp) ?_
          refine AllReadyH.cons (o := ⟨none, _, _, _, _, _⟩) rfl (fun K hK => ?_) AllReadyH.nil
          go_simp
          refine hK.out _ _ (by (try dsimp only); (exact ⟨Step.of, (bcell (fut _ _)).1⟩)) (fun hHeld => ?_)
          clear hK K
          (try simp only [Act.put, List.setIfInBounds_toArray, List.set_cons_zero, List.set_cons_succ])
          refine wpAnyH_done (by kernel_rfl) ?_ _
          go_wp2_with fail
          go_meet
          case rel =>
            have hd := Lnt0.done (W := W) (s := s) (ns := ns) (g7 := w6.heap.size) (g8 := w5.heap.size) (A7 := A7) (c7 := c7) (A8 := A8) (c8 := c8) (wx := (w6.alloc (.cells #[.slice none 0 0] 24))) ⟨(Blk.new w6 [.slice none 0 0] 24).fut, (Blk.new w5 [.int .i64 0, .slice none 0 0, .int .i64 0] 27).fut, (HO5.out.more (base' := W.heap.size) (by (try simp only [hdz]); (try simp only [hsz]); (try simp only [hdz]); omega)).fut, HL6.out.fut, (fun b o e => by
              have k1 := HA6.out b o e
              (try simp only [hdz] at k1); (try simp only [hsz] at k1); (try simp only [hdz] at k1)
              have k2 := HL6.out.lt_at e
              omega), by omega, by omega, by omega, Step.of⟩
            refine ⟨w6.heap.size, w5.heap.size, A7, c7, A8, c8, rfl, rfl, ?_⟩
            first | exact hd | (revert hd; go_simp)
        · go_simp
          refine hK.out _ _ (by (try dsimp only); (exact ⟨Step.of, (bcell (fut _ _)).1⟩)) (fun hHeld => ?_)
          clear hK K
          (try simp only [Act.put, List.setIfInBounds_toArray, List.set_cons_zero, List.set_cons_succ])
          refine wpAnyH_ready (rs := [3]) (by kernel_rfl) (by simp) ?_
          refine AllReadyH.cons (o := ⟨some 18, _, _, _, _, _⟩) rfl (fun K hK => ?_) AllReadyH.nil
          obtain ⟨hS1, hS2⟩ := hHeld
          go_simp
          (go_at_call 15; (with_reducible refine (HL3.out _).mono ?_); intro e w6 hr6; obtain ⟨A8, c8, rfl, hl6, hab6, hs6⟩ := hr6; have z6 := hs6.size; (try simp only [hdz] at z6); (try simp only [hsz] at z6); (try simp only [hdz] at z6); have HL6 := hide hl6; have HA6 := hide hab6; clear hl6 hab6; have hx_ := (Blk.new_at (w := (w5.alloc (.cells #[.int .i64 0, .slice none 0 0, .int .i64 0] 27))) (b := w5.heap.size + 1) (by simp) [.slice none 0 0] 24).fut (w' := w6); have x0 := At.z1 hx_.at0; have fx := hx_.free; have lx := hx_.lt; have HBxw6 := hide hx_; clear hx_; have hy_ := (Blk.new w5 [.int .i64 0, .slice none 0 0, .int .i64 0] 27).fut (w' := w6); obtain ⟨y0, y1, y2⟩ := At.z3 hy_.at0; have fy := hy_.free; have ly := hy_.lt; have HByw6 := hide hy_; clear hy_)
          refine hK.out _ _ (by (try dsimp only); (first | exact ⟨hS1, hS2⟩ | exact ⟨Step.of, (bcell (fut _ _)).1⟩)) (fun hHeld => ?_)
          clear hK K
          (try simp only [Act.put, List.setIfInBounds_toArray, List.set_cons_zero, List.set_cons_succ])
          refine wpAnyH_ready (rs := [6]) (by kernel_rfl) (by simp) ?_
          refine AllReadyH.cons (o := ⟨none, _, _, _, _, _⟩) rfl (fun K hK => ?_) AllReadyH.nil
          go_simp
          refine hK.out _ _ (by (try dsimp only); (exact ⟨Step.of, (bcell (fut _ _)).1⟩)) (fun hHeld => ?_)
          clear hK K
          (try simp only [Act.put, List.setIfInBounds_toArray, List.set_cons_zero, List.set_cons_succ])
          refine wpAnyH_ready (rs := [7]) (by kernel_rfl) (by simp) ?_
          refine AllReadyH.cons (o := ⟨none, _, _, _, _, _⟩) rfl (fun K hK => ?_) AllReadyH.nil
          go_simp
          refine hK.out _ _ (by (try dsimp only); (exact ⟨Step.of, (bcell (fut _ _)).1⟩)) (fun hHeld => ?_)
          clear hK K
          (try simp only [Act.put, List.setIfInBounds_toArray, List.set_cons_zero, List.set_cons_succ])
          refine wpAnyH_done (by kernel_rfl) ?_ _
          go_wp2_with fail
          go_meet
          case rel =>
            have hd := Lnt0.done (W := W) (s := s) (ns := ns) (g7 := w5.heap.size + 1) (g8 := w5.heap.size) (A7 := A7) (c7 := c7) (A8 := A8) (c8 := c8) (wx := w6) ⟨(Blk.new_at (w := (w5.alloc (.cells #[.int .i64 0, .slice none 0 0, .int .i64 0] 27))) (b := w5.heap.size + 1) (by simp) [.slice none 0 0] 24).fut, (Blk.new w5 [.int .i64 0, .slice none 0 0, .int .i64 0] 27).fut, (HO5.out.more (base' := W.heap.size) (by (try simp only [hdz]); (try simp only [hsz]); (try simp only [hdz]); omega)).fut, HL6.out.fut, (fun b o e => by
              have k1 := HA6.out b o e
              (try simp only [hdz] at k1); (try simp only [hsz] at k1); (try simp only [hdz] at k1)
              have k2 := HL6.out.lt_at e
              omega), by omega, by omega, by omega, Step.of⟩
            refine ⟨w5.heap.size + 1, w5.heap.size, A7, c7, A8, c8, rfl, rfl, ?_⟩
            first | exact hd | (revert hd; go_simp)
    · go_simp
      refine hK.out _ _ (by (try dsimp only); (exact ⟨Step.of, (bcell (fut _ _)).1⟩)) (fun hHeld => ?_)
      clear hK K
      (try simp only [Act.put, List.setIfInBounds_toArray, List.set_cons_zero, List.set_cons_succ])
      refine wpAnyH_ready (rs := [1, 5]) (by kernel_rfl) (by simp) ?_
      refine AllReadyH.cons (o := ⟨some 16, _, _, _, _, _⟩) rfl (fun K hK => ?_) (AllReadyH.cons (o := ⟨some 8, _, _, _, _, _⟩) rfl (fun K hK => ?_) AllReadyH.nil)
      · obtain ⟨hS1, hS2⟩ := hHeld
        go_simp
        (go_at_call 14; (with_reducible refine (HL1.out _).mono ?_); intro e w5 hr5; obtain ⟨A7, c7, rfl, ho5, hs5⟩ := hr5; have z5 := hs5.size; (try simp only [hdz] at z5); (try simp only [hsz] at z5); (try simp only [hdz] at z5); have HO5 := hide ho5; clear ho5; have hx_ := (Blk.new W [.slice none 0 0] 24).fut (w' := w5); have x0 := At.z1 hx_.at0; have fx := hx_.free; have lx := hx_.lt; have HBxw5 := hide hx_; clear hx_)
        refine hK.out _ _ (by (try dsimp only); (first | exact ⟨hS1, hS2⟩ | exact ⟨Step.of, (bcell (fut _ _)).1⟩)) (fun hHeld => ?_)
        clear hK K
        (try simp only [Act.put, List.setIfInBounds_toArray, List.set_cons_zero, List.set_cons_succ])
        refine wpAnyH_ready (rs := [3, 5]) (by kernel_rfl) (by simp) ?_
        refine AllReadyH.cons (o := ⟨some 18, _, _, _, _, _⟩) rfl (fun K hK => ?_) (AllReadyH.cons (o := ⟨some 8, _, _, _, _, _⟩) rfl (fun K hK => ?_) AllReadyH.nil)
        · obtain ⟨hS1, hS2⟩ := hHeld
          go_simp
          (go_at_call 15; (with_reducible refine (HL3.out _).mono ?_); intro e w6 hr6; obtain ⟨A8, c8, rfl, hl6, hab6, hs6⟩ := hr6; have z6 := hs6.size; (try simp only [hdz] at z6); (try simp only [hsz] at z6); (try simp only [hdz] at z6); have HL6 := hide hl6; have HA6 := hide hab6; clear hl6 hab6; clear x0 fx lx; have hx_ := (Blk.new W [.slice none 0 0] 24).fut (w' := w6); have x0 := At.z1 hx_.at0; have fx := hx_.free; have lx := hx_.lt; have HBxw6 := hide hx_; clear hx_)
          refine hK.out _ _ (by (try dsimp only); (first | exact ⟨hS1, hS2⟩ | exact ⟨Step.of, (bcell (fut _ _)).1⟩)) (fun hHeld => ?_)
          clear hK K
          (try simp only [Act.put, List.setIfInBounds_toArray, List.set_cons_zero, List.set_cons_succ])
          refine wpAnyH_ready (rs := [5]) (by kernel_rfl) (by simp) ?_
          refine AllReadyH.cons (o := ⟨some 8, _, _, _, _, _⟩) rfl (fun K hK => ?_) AllReadyH.nil
          go_simp
          refine hK.out _ _ (by (try dsimp only); (exact ⟨Step.of, (bcell (fut _ _)).1⟩)) (fun hHeld => ?_)
          clear hK K
          (try simp only [Act.put, List.setIfInBounds_toArray, List.set_cons_zero, List.set_cons_succ])
          refine wpAnyH_ready (rs := [6]) (by kernel_rfl) (by simp) ?_
          refine AllReadyH.cons (o := ⟨none, _, _, _, _, _⟩) rfl (fun K hK => ?_) AllReadyH.nil
          go_simp
          refine hK.out _ _ (by (try dsimp only); (exact ⟨Step.of, (bcell (fut _ _)).1⟩)) (fun hHeld => ?_)
          clear hK K
          (try simp only [Act.put, List.setIfInBounds_toArray, List.set_cons_zero, List.set_cons_succ])
          refine wpAnyH_ready (rs := [7]) (by kernel_rfl) (by simp) ?_
          refine AllReadyH.cons (o := ⟨none, _, _, _, _, _⟩) rfl (fun K hK => ?_) AllReadyH.nil
          go_simp
          refine hK.out _ _ (by (try dsimp only); (exact ⟨Step.of, (bcell (fut _ _)).1⟩)) (fun hHeld => ?_)
          clear hK K
          (try simp only [Act.put, List.setIfInBounds_toArray, List.set_cons_zero, List.set_cons_succ])
          refine wpAnyH_done (by kernel_rfl) ?_ _
          go_wp2_with fail
          go_meet
          case rel =>
            have hd := Lnt0.done (W := W) (s := s) (ns := ns) (g7 := W.heap.size) (g8 := w6.heap.size) (A7 := A7) (c7 := c7) (A8 := A8) (c8 := c8) (wx := (w6.alloc (.cells #[.int .i64 0, .slice none 0 0, .int .i64 0] 27))) ⟨(Blk.new W [.slice none 0 0] 24).fut, (Blk.new w6 [.int .i64 0, .slice none 0 0, .int .i64 0] 27).fut, (HO5.out.more (base' := W.heap.size) (by (try simp only [hdz]); (try simp only [hsz]); (try simp only [hdz]); omega)).fut, HL6.out.fut, (fun b o e => by
              have k1 := HA6.out b o e
              (try simp only [hdz] at k1); (try simp only [hsz] at k1); (try simp only [hdz] at k1)
              have k2 := HL6.out.lt_at e
              omega), by omega, by omega, by omega, Step.of⟩
            refine ⟨W.heap.size, w6.heap.size, A7, c7, A8, c8, rfl, rfl, ?_⟩
            first | exact hd | (revert hd; go_simp)
        · go_simp
          refine hK.out _ _ (by (try dsimp only); (exact ⟨Step.of, (bcell (fut _ _)).1⟩)) (fun hHeld => ?_)
          clear hK K
          (try simp only [Act.put, List.setIfInBounds_toArray, List.set_cons_zero, List.set_cons_succ])
          refine wpAnyH_ready (rs := [3]) (by kernel_rfl) (by simp) ?_
          refine AllReadyH.cons (o := ⟨some 18, _, _, _, _, _⟩) rfl (fun K hK => ?_) AllReadyH.nil
          obtain ⟨hS1, hS2⟩ := hHeld
          go_simp
          (go_at_call 15; (with_reducible refine (HL3.out _).mono ?_); intro e w6 hr6; obtain ⟨A8, c8, rfl, hl6, hab6, hs6⟩ := hr6; have z6 := hs6.size; (try simp only [hdz] at z6); (try simp only [hsz] at z6); (try simp only [hdz] at z6); have HL6 := hide hl6; have HA6 := hide hab6; clear hl6 hab6; clear x0 fx lx; have hx_ := (Blk.new W [.slice none 0 0] 24).fut (w' := w6); have x0 := At.z1 hx_.at0; have fx := hx_.free; have lx := hx_.lt; have HBxw6 := hide hx_; clear hx_; have hy_ := (Blk.new w5 [.int .i64 0, .slice none 0 0, .int .i64 0] 27).fut (w' := w6); obtain ⟨y0, y1, y2⟩ := At.z3 hy_.at0; have fy := hy_.free; have ly := hy_.lt; have HByw6 := hide hy_; clear hy_)
          refine hK.out _ _ (by (try dsimp only); (first | exact ⟨hS1, hS2⟩ | exact ⟨Step.of, (bcell (fut _ _)).1⟩)) (fun hHeld => ?_)
          clear hK K
          (try simp only [Act.put, List.setIfInBounds_toArray, List.set_cons_zero, List.set_cons_succ])
          refine wpAnyH_ready (rs := [6]) (by kernel_rfl) (by simp) ?_
          refine AllReadyH.cons (o := ⟨none, _, _, _, _, _⟩) rfl (fun K hK => ?_) AllReadyH.nil
          go_simp
          refine hK.out _ _ (by (try dsimp only); (exact ⟨Step.of, (bcell (fut _ _)).1⟩)) (fun hHeld => ?_)
          clear hK K
          (try simp only [Act.put, List.setIfInBounds_toArray, List.set_cons_zero, List.set_cons_succ])
          refine wpAnyH_ready (rs := [7]) (by kernel_rfl) (by simp) ?_
          refine AllReadyH.cons (o := ⟨none, _, _, _, _, _⟩) rfl (fun K hK => ?_) AllReadyH.nil
          go_simp
          refine hK.out _ _ (by (try dsimp only); (exact ⟨Step.of, (bcell (fut _ _)).1⟩)) (fun hHeld => ?_)
          clear hK K
          (try simp only [Act.put, List.setIfInBounds_toArray, List.set_cons_zero, List.set_cons_succ])
          refine wpAnyH_done (by kernel_rfl) ?_ _
          go_wp2_with fail
          go_meet
          case rel =>
            have hd := Lnt0.done (W := W) (s := s) (ns := ns) (g7 := W.heap.size) (g8 := w5.heap.size) (A7 := A7) (c7 := c7) (A8 := A8) (c8 := c8) (wx := w6) ⟨(Blk.new W [.slice none 0 0] 24).fut, (Blk.new w5 [.int .i64 0, .slice none 0 0, .int .i64 0] 27).fut, (HO5.out.more (base' := W.heap.size) (by (try simp only [hdz]); (try simp only [hsz]); (try simp only [hdz]); omega)).fut, HL6.out.fut, (fun b o e => by
              have k1 := HA6.out b o e
              (try simp only [hdz] at k1); (try simp only [hsz] at k1); (try simp only [hdz] at k1)
              have k2 := HL6.out.lt_at e
              omega), by omega, by omega, by omega, Step.of⟩
            refine ⟨W.heap.size, w5.heap.size, A7, c7, A8, c8, rfl, rfl, ?_⟩
            first | exact hd | (revert hd; go_simp)
      · go_simp
        refine hK.out _ _ (by (try dsimp only); (exact ⟨Step.of, (bcell (fut _ _)).1⟩)) (fun hHeld => ?_)
        clear hK K
        (try simp only [Act.put, List.setIfInBounds_toArray, List.set_cons_zero, List.set_cons_succ])
        refine wpAnyH_ready (rs := [1]) (by kernel_rfl) (by simp) ?_
        refine AllReadyH.cons (o := ⟨some 16, _, _, _, _, _⟩) rfl (fun K hK => ?_) AllReadyH.nil
        obtain ⟨hS1, hS2⟩ := hHeld
        go_simp
        (go_at_call 14; (with_reducible refine (HL1.out _).mono ?_); intro e w5 hr5; obtain ⟨A7, c7, rfl, ho5, hs5⟩ := hr5; have z5 := hs5.size; (try simp only [hdz] at z5); (try simp only [hsz] at z5); (try simp only [hdz] at z5); have HO5 := hide ho5; clear ho5; have hx_ := (Blk.new W [.slice none 0 0] 24).fut (w' := w5); have x0 := At.z1 hx_.at0; have fx := hx_.free; have lx := hx_.lt; have HBxw5 := hide hx_; clear hx_; have hy_ := (Blk.new_at (w := (W.alloc (.cells #[.slice none 0 0] 24))) (b := W.heap.size + 1) (by simp) [.int .i64 0, .slice none 0 0, .int .i64 0] 27).fut (w' := w5); obtain ⟨y0, y1, y2⟩ := At.z3 hy_.at0; have fy := hy_.free; have ly := hy_.lt; have HByw5 := hide hy_; clear hy_)
        refine hK.out _ _ (by (try dsimp only); (first | exact ⟨hS1, hS2⟩ | exact ⟨Step.of, (bcell (fut _ _)).1⟩)) (fun hHeld => ?_)
        clear hK K
        (try simp only [Act.put, List.setIfInBounds_toArray, List.set_cons_zero, List.set_cons_succ])
        refine wpAnyH_ready (rs := [3]) (by kernel_rfl) (by simp) ?_
        refine AllReadyH.cons (o := ⟨some 18, _, _, _, _, _⟩) rfl (fun K hK => ?_) AllReadyH.nil
        obtain ⟨hS1, hS2⟩ := hHeld
        go_simp
        (go_at_call 15; (with_reducible refine (HL3.out _).mono ?_); intro e w6 hr6; obtain ⟨A8, c8, rfl, hl6, hab6, hs6⟩ := hr6; have z6 := hs6.size; (try simp only [hdz] at z6); (try simp only [hsz] at z6); (try simp only [hdz] at z6); have HL6 := hide hl6; have HA6 := hide hab6; clear hl6 hab6; clear x0 fx lx y0 y1 y2 fy ly; have hx_ := (Blk.new W [.slice none 0 0] 24).fut (w' := w6); have x0 := At.z1 hx_.at0; have fx := hx_.free; have lx := hx_.lt; have HBxw6 := hide hx_; clear hx_; have hy_ := (Blk.new_at (w := (W.alloc (.cells #[.slice none 0 0] 24))) (b := W.heap.size + 1) (by simp) [.int .i64 0, .slice none 0 0, .int .i64 0] 27).fut (w' := w6); obtain ⟨y0, y1, y2⟩ := At.z3 hy_.at0; have fy := hy_.free; have ly := hy_.lt; have HByw6 := hide hy_; clear hy_)
        refine hK.out _ _ (by (try dsimp only); (first | exact ⟨hS1, hS2⟩ | exact ⟨Step.of, (bcell (fut _ _)).1⟩)) (fun hHeld => ?_)
        clear hK K
        (try simp only [Act.put, List.setIfInBounds_toArray, List.set_cons_zero, List.set_cons_succ])
        refine wpAnyH_ready (rs := [6]) (by kernel_rfl) (by simp) ?_
        refine AllReadyH.cons (o := ⟨none, _, _, _, _, _⟩) rfl (fun K hK => ?_) AllReadyH.nil
        go_simp
        refine hK.out _ _ (by (try dsimp only); (exact ⟨Step.of, (bcell (fut _ _)).1⟩)) (fun hHeld => ?_)
        clear hK K
        (try simp only [Act.put, List.setIfInBounds_toArray, List.set_cons_zero, List.set_cons_succ])
        refine wpAnyH_ready (rs := [7]) (by kernel_rfl) (by simp) ?_
        refine AllReadyH.cons (o := ⟨none, _, _, _, _, _⟩) rfl (fun K hK => ?_) AllReadyH.nil
        go_simp
        refine hK.out _ _ (by (try dsimp only); (exact ⟨Step.of, (bcell (fut _ _)).1⟩)) (fun hHeld => ?_)
        clear hK K
        (try simp only [Act.put, List.setIfInBounds_toArray, List.set_cons_zero, List.set_cons_succ])
        refine wpAnyH_done (by kernel_rfl) ?_ _
        go_wp2_with fail
        go_meet
        case rel =>
          have hd := Lnt0.done (W := W) (s := s) (ns := ns) (g7 := W.heap.size) (g8 := W.heap.size + 1) (A7 := A7) (c7 := c7) (A8 := A8) (c8 := c8) (wx := w6) ⟨(Blk.new W [.slice none 0 0] 24).fut, (Blk.new_at (w := (W.alloc (.cells #[.slice none 0 0] 24))) (b := W.heap.size + 1) (by simp) [.int .i64 0, .slice none 0 0, .int .i64 0] 27).fut, (HO5.out.more (base' := W.heap.size) (by (try simp only [hdz]); (try simp only [hsz]); (try simp only [hdz]); omega)).fut, HL6.out.fut, (fun b o e => by
            have k1 := HA6.out b o e
            (try simp only [hdz] at k1); (try simp only [hsz] at k1); (try simp only [hdz] at k1)
            have k2 := HL6.out.lt_at e
            omega), by omega, by omega, by omega, Step.of⟩
          refine ⟨W.heap.size, W.heap.size + 1, A7, c7, A8, c8, rfl, rfl, ?_⟩
          first | exact hd | (revert hd; go_simp)
    · go_simp
      refine hK.out _ _ (by (try dsimp only); (exact ⟨Step.of, (bcell (fut _ _)).1⟩)) (fun hHeld => ?_)
      clear hK K
      (try simp only [Act.put, List.setIfInBounds_toArray, List.set_cons_zero, List.set_cons_succ])
      refine wpAnyH_ready (rs := [1, 4]) (by kernel_rfl) (by simp) ?_
      refine AllReadyH.cons (o := ⟨some 16, _, _, _, _, _⟩) rfl (fun K hK => ?_) (AllReadyH.cons (o := ⟨some 7, _, _, _, _, _⟩) rfl (fun K hK => ?_) AllReadyH.nil)
      · obtain ⟨hS1, hS2⟩ := hHeld
        go_simp
        (go_at_call 14; (with_reducible refine (HL1.out _).mono ?_); intro e w5 hr5; obtain ⟨A7, c7, rfl, ho5, hs5⟩ := hr5; have z5 := hs5.size; (try simp only [hdz] at z5); (try simp only [hsz] at z5); (try simp only [hdz] at z5); have HO5 := hide ho5; clear ho5; have hy_ := (Blk.new W [.int .i64 0, .slice none 0 0, .int .i64 0] 27).fut (w' := w5); obtain ⟨y0, y1, y2⟩ := At.z3 hy_.at0; have fy := hy_.free; have ly := hy_.lt; have HByw5 := hide hy_; clear hy_)
        refine hK.out _ _ (by (try dsimp only); (first | exact ⟨hS1, hS2⟩ | exact ⟨Step.of, (bcell (fut _ _)).1⟩)) (fun hHeld => ?_)
        clear hK K
        (try simp only [Act.put, List.setIfInBounds_toArray, List.set_cons_zero, List.set_cons_succ])
        refine wpAnyH_ready (rs := [3, 4]) (by kernel_rfl) (by simp) ?_
        refine AllReadyH.cons (o := ⟨some 18, _, _, _, _, _⟩) rfl (fun K hK => ?_) (AllReadyH.cons (o := ⟨some 7, _, _, _, _, _⟩) rfl (fun K hK => ?_) AllReadyH.nil)
        · obtain ⟨hS1, hS2⟩ := hHeld
          go_simp
          (go_at_call 15; (with_reducible refine (HL3.out _).mono ?_); intro e w6 hr6; obtain ⟨A8, c8, rfl, hl6, hab6, hs6⟩ := hr6; have z6 := hs6.size; (try simp only [hdz] at z6); (try simp only [hsz] at z6); (try simp only [hdz] at z6); have HL6 := hide hl6; have HA6 := hide hab6; clear hl6 hab6; clear y0 y1 y2 fy ly; have hy_ := (Blk.new W [.int .i64 0, .slice none 0 0, .int .i64 0] 27).fut (w' := w6); obtain ⟨y0, y1, y2⟩ := At.z3 hy_.at0; have fy := hy_.free; have ly := hy_.lt; have HByw6 := hide hy_; clear hy_)
          refine hK.out _ _ (by (try dsimp only); (first | exact ⟨hS1, hS2⟩ | exact ⟨Step.of, (bcell (fut _ _)).1⟩)) (fun hHeld => ?_)
          clear hK K
          (try simp only [Act.put, List.setIfInBounds_toArray, List.set_cons_zero, List.set_cons_succ])
          refine wpAnyH_ready (rs := [4]) (by kernel_rfl) (by simp) ?_
          refine AllReadyH.cons (o := ⟨some 7, _, _, _, _, _⟩) rfl (fun K hK => ?_) AllReadyH.nil
          go_simp
          refine hK.out _ _ (by (try dsimp only); (exact ⟨Step.of, (bcell (fut _ _)).1⟩)) (fun hHeld => ?_)
          clear hK K
          (try simp only [Act.put, List.setIfInBounds_toArray, List.set_cons_zero, List.set_cons_succ])
          refine wpAnyH_ready (rs := [6]) (by kernel_rfl) (by simp) ?_
          refine AllReadyH.cons (o := ⟨none, _, _, _, _, _⟩) rfl (fun K hK => ?_) AllReadyH.nil
          go_simp
          refine hK.out _ _ (by (try dsimp only); (exact ⟨Step.of, (bcell (fut _ _)).1⟩)) (fun hHeld => ?_)
          clear hK K
          (try simp only [Act.put, List.setIfInBounds_toArray, List.set_cons_zero, List.set_cons_succ])
          refine wpAnyH_ready (rs := [7]) (by kernel_rfl) (by simp) ?_
          refine AllReadyH.cons (o := ⟨none, _, _, _, _, _⟩) rfl (fun K hK => ?_) AllReadyH.nil
          go_simp
          refine hK.out _ _ (by (try dsimp only); (exact ⟨Step.of, (bcell (fut _ _)).1⟩)) (fun hHeld => ?_)
          clear hK K
          (try simp only [Act.put, List.setIfInBounds_toArray, List.set_cons_zero, List.set_cons_succ])
          refine wpAnyH_done (by kernel_rfl) ?_ _
          go_wp2_with fail
          go_meet
          case rel =>
            have hd := Lnt0.done (W := W) (s := s) (ns := ns) (g7 := w6.heap.size) (g8 := W.heap.size) (A7 := A7) (c7 := c7) (A8 := A8) (c8 := c8) (wx := (w6.alloc (.cells #[.slice none 0 0] 24))) ⟨(Blk.new w6 [.slice none 0 0] 24).fut, (Blk.new W [.int .i64 0, .slice none 0 0, .int .i64 0] 27).fut, (HO5.out.more (base' := W.heap.size) (by (try simp only [hdz]); (try simp only [hsz]); (try simp only [hdz]); omega)).fut, HL6.out.fut, (fun b o e => by
              have k1 := HA6.out b o e
              (try simp only [hdz] at k1); (try simp only [hsz] at k1); (try simp only [hdz] at k1)
              have k2 := HL6.out.lt_at e
              omega), by omega, by omega, by omega, Step.of⟩
            refine ⟨w6.heap.size, W.heap.size, A7, c7, A8, c8, rfl, rfl, ?_⟩
            first | exact hd | (revert hd; go_simp)
        · go_simp
          refine hK.out _ _ (by (try dsimp only); (exact ⟨Step.of, (bcell (fut _ _)).1⟩)) (fun hHeld => ?_)
          clear hK K
          (try simp only [Act.put, List.setIfInBounds_toArray, List.set_cons_zero, List.set_cons_succ])
          refine wpAnyH_ready (rs := [3]) (by kernel_rfl) (by simp) ?_
          refine AllReadyH.cons (o := ⟨some 18, _, _, _, _, _⟩) rfl (fun K hK => ?_) AllReadyH.nil
          obtain ⟨hS1, hS2⟩ := hHeld
          go_simp
          (go_at_call 15; (with_reducible refine (HL3.out _).mono ?_); intro e w6 hr6; obtain ⟨A8, c8, rfl, hl6, hab6, hs6⟩ := hr6; have z6 := hs6.size; (try simp only [hdz] at z6); (try simp only [hsz] at z6); (try simp only [hdz] at z6); have HL6 := hide hl6; have HA6 := hide hab6; clear hl6 hab6; clear y0 y1 y2 fy ly; have hx_ := (Blk.new w5 [.slice none 0 0] 24).fut (w' := w6); have x0 := At.z1 hx_.at0; have fx := hx_.free; have lx := hx_.lt; have HBxw6 := hide hx_; clear hx_; have hy_ := (Blk.new W [.int .i64 0, .slice none 0 0, .int .i64 0] 27).fut (w' := w6); obtain ⟨y0, y1, y2⟩ := At.z3 hy_.at0; have fy := hy_.free; have ly := hy_.lt; have HByw6 := hide hy_; clear hy_)
          refine hK.out _ _ (by (try dsimp only); (first | exact ⟨hS1, hS2⟩ | exact ⟨Step.of, (bcell (fut _ _)).1⟩)) (fun hHeld => ?_)
          clear hK K
          (try simp only [Act.put, List.setIfInBounds_toArray, List.set_cons_zero, List.set_cons_succ])
          refine wpAnyH_ready (rs := [6]) (by kernel_rfl) (by simp) ?_
          refine AllReadyH.cons (o := ⟨none, _, _, _, _, _⟩) rfl (fun K hK => ?_) AllReadyH.nil
          go_simp
          refine hK.out _ _ (by (try dsimp only); (exact ⟨Step.of, (bcell (fut _ _)).1⟩)) (fun hHeld => ?_)
          clear hK K
          (try simp only [Act.put, List.setIfInBounds_toArray, List.set_cons_zero, List.set_cons_succ])
          refine wpAnyH_ready (rs := [7]) (by kernel_rfl) (by simp) ?_
          refine AllReadyH.cons (o := ⟨none, _, _, _, _, _⟩) rfl (fun K hK => ?_) AllReadyH.nil
          go_simp
          refine hK.out _ _ (by (try dsimp only); (exact ⟨Step.of, (bcell (fut _ _)).1⟩)) (fun hHeld => ?_)
          clear hK K
          (try simp only [Act.put, List.setIfInBounds_toArray, List.set_cons_zero, List.set_cons_succ])
          refine wpAnyH_done (by kernel_rfl) ?_ _
          go_wp2_with fail
          go_meet
          case rel =>
            have hd := Lnt0.done (W := W) (s := s) (ns := ns) (g7 := w5.heap.size) (g8 := W.heap.size) (A7 := A7) (c7 := c7) (A8 := A8) (c8 := c8) (wx := w6) ⟨(Blk.new w5 [.slice none 0 0] 24).fut, (Blk.new W [.int .i64 0, .slice none 0 0, .int .i64 0] 27).fut, (HO5.out.more (base' := W.heap.size) (by (try simp only [hdz]); (try simp only [hsz]); (try simp only [hdz]); omega)).fut, HL6.out.fut, (fun b o e => by
              have k1 := HA6.out b o e
              (try simp only [hdz] at k1); (try simp only [hsz] at k1); (try simp only [hdz] at k1)
              have k2 := HL6.out.lt_at e
              omega), by omega, by omega, by omega, Step.of⟩
            refine ⟨w5.heap.size, W.heap.size, A7, c7, A8, c8, rfl, rfl, ?_⟩
            first | exact hd | (revert hd; go_simp)
      · go_simp
        refine hK.out _ _ (by (try dsimp only); (exact ⟨Step.of, (bcell (fut _ _)).1⟩)) (fun hHeld => ?_)
        clear hK K
        (try simp only [Act.put, List.setIfInBounds_toArray, List.set_cons_zero, List.set_cons_succ])
        refine wpAnyH_ready (rs := [1]) (by kernel_rfl) (by simp) ?_
        refine AllReadyH.cons (o := ⟨some 16, _, _, _, _, _⟩) rfl (fun K hK => ?_) AllReadyH.nil
        obtain ⟨hS1, hS2⟩ := hHeld
        go_simp
        (go_at_call 14; (with_reducible refine (HL1.out _).mono ?_); intro e w5 hr5; obtain ⟨A7, c7, rfl, ho5, hs5⟩ := hr5; have z5 := hs5.size; (try simp only [hdz] at z5); (try simp only [hsz] at z5); (try simp only [hdz] at z5); have HO5 := hide ho5; clear ho5; have hx_ := (Blk.new_at (w := (W.alloc (.cells #[.int .i64 0, .slice none 0 0, .int .i64 0] 27))) (b := W.heap.size + 1) (by simp) [.slice none 0 0] 24).fut (w' := w5); have x0 := At.z1 hx_.at0; have fx := hx_.free; have lx := hx_.lt; have HBxw5 := hide hx_; clear hx_; have hy_ := (Blk.new W [.int .i64 0, .slice none 0 0, .int .i64 0] 27).fut (w' := w5); obtain ⟨y0, y1, y2⟩ := At.z3 hy_.at0; have fy := hy_.free; have ly := hy_.lt; have HByw5 := hide hy_; clear hy_)
        refine hK.out _ _ (by (try dsimp only); (first | exact ⟨hS1, hS2⟩ | exact ⟨Step.of, (bcell (fut _ _)).1⟩)) (fun hHeld => ?_)
        clear hK K
        (try simp only [Act.put, List.setIfInBounds_toArray, List.set_cons_zero, List.set_cons_succ])
        refine wpAnyH_ready (rs := [3]) (by kernel_rfl) (by simp) ?_
        refine AllReadyH.cons (o := ⟨some 18, _, _, _, _, _⟩) rfl (fun K hK => ?_) AllReadyH.nil
        obtain ⟨hS1, hS2⟩ := hHeld
        go_simp
        (go_at_call 15; (with_reducible refine (HL3.out _).mono ?_); intro e w6 hr6; obtain ⟨A8, c8, rfl, hl6, hab6, hs6⟩ := hr6; have z6 := hs6.size; (try simp only [hdz] at z6); (try simp only [hsz] at z6); (try simp only [hdz] at z6); have HL6 := hide hl6; have HA6 := hide hab6; clear hl6 hab6; clear x0 fx lx y0 y1 y2 fy ly; have hx_ := (Blk.new_at (w := (W.alloc (.cells #[.int .i64 0, .slice none 0 0, .int .i64 0] 27))) (b := W.heap.size + 1) (by simp) [.slice none 0 0] 24).fut (w' := w6); have x0 := At.z1 hx_.at0; have fx := hx_.free; have lx := hx_.lt; have HBxw6 := hide hx_; clear hx_; have hy_ := (Blk.new W [.int .i64 0, .slice none 0 0, .int .i64 0] 27).fut (w' := w6); obtain ⟨y0, y1, y2⟩ := At.z3 hy_.at0; have fy := hy_.free; have ly := hy_.lt; have HByw6 := hide hy_; clear hy_)
        refine hK.out _ _ (by (try dsimp only); (first | exact ⟨hS1, hS2⟩ | exact ⟨Step.of, (bcell (fut _ _)).1⟩)) (fun hHeld => ?_)
        clear hK K
        (try simp only [Act.put, List.setIfInBounds_toArray, List.set_cons_zero, List.set_cons_succ])
        refine wpAnyH_ready (rs := [6]) (by kernel_rfl) (by simp) ?_
        refine AllReadyH.cons (o := ⟨none, _, _, _, _, _⟩) rfl (fun K hK => ?_) AllReadyH.nil
        go_simp
        refine hK.out _ _ (by (try dsimp only); (exact ⟨Step.of, (bcell (fut _ _)).1⟩)) (fun hHeld => ?_)
        clear hK K
        (try simp only [Act.put, List.setIfInBounds_toArray, List.set_cons_zero, List.set_cons_succ])
        refine wpAnyH_ready (rs := [7]) (by kernel_rfl) (by simp) ?_
        refine AllReadyH.cons (o := ⟨none, _, _, _, _, _⟩) rfl (fun K hK => ?_) AllReadyH.nil
        go_simp
        refine hK.out _ _ (by (try dsimp only); (exact ⟨Step.of, (bcell (fut _ _)).1⟩)) (fun hHeld => ?_)
        clear hK K
        (try simp only [Act.put, List.setIfInBounds_toArray, List.set_cons_zero, List.set_cons_succ])
        refine wpAnyH_done (by kernel_rfl) ?_ _
        go_wp2_with fail
        go_meet
        case rel =>
          have hd := Lnt0.done (W := W) (s := s) (ns := ns) (g7 := W.heap.size + 1) (g8 := W.heap.size) (A7 := A7) (c7 := c7) (A8 := A8) (c8 := c8) (wx := w6) ⟨(Blk.new_at (w := (W.alloc (.cells #[.int .i64 0, .slice none 0 0, .int .i64 0] 27))) (b := W.heap.size + 1) (by simp) [.slice none 0 0] 24).fut, (Blk.new W [.int .i64 0, .slice none 0 0, .int .i64 0] 27).fut, (HO5.out.more (base' := W.heap.size) (by (try simp only [hdz]); (try simp only [hsz]); (try simp only [hdz]); omega)).fut, HL6.out.fut, (fun b o e => by
            have k1 := HA6.out b o e
            (try simp only [hdz] at k1); (try simp only [hsz] at k1); (try simp only [hdz] at k1)
            have k2 := HL6.out.lt_at e
            omega), by omega, by omega, by omega, Step.of⟩
          refine ⟨W.heap.size + 1, W.heap.size, A7, c7, A8, c8, rfl, rfl, ?_⟩
          first | exact hd | (revert hd; go_simp)
  case rest =>
    obtain ⟨g7, g8, A7, c7, A8, c8, rfl, rfl, hlnt⟩ := hcut
    obtain ⟨U, rfl⟩ : ∃ x : World, x = wc := ⟨_, rfl⟩
    have HLN := hide hlnt; clear hlnt
    have SU := HLN.out.st
    have zU := SU.size
    have HL2 := hide (fun w' [Fut w w'] => lendValues_any vs Av cv w' hv hvl)
    have r0 := At.z1 (HRW.out.fut (w' := U)).at0; have lr := (HRW.out.fut (w' := U)).lt
    go_upto_region 2 with (fail)
    go_cut [9] from 19 to 22 (fun z wx => ∃ (g9 : Nat) (A9 : Option Addr) (c9 : Nat), z = .pointer (some ⟨g9, 0, none⟩) ∧ Blk wx g9 30 [.slice A9 vs.length c9] ∧ SlAt wx wx.heap.size 4 A9 ((vs ++ [Val.mark, Val.mark]).map Val.cells) ∧ vs.length + 2 ≤ c9 ∧ c9 ≤ 9223372036854775807 ∧ Step U wx)
    case first =>
      go_wp2_with fail
      refine (HL2.out _).mono ?_
      intro e w6 hr6; obtain ⟨A9, c9, rfl, hc1, hc2, hv9, hab9, hs6⟩ := hr6; have HV9 := hide hv9; have HA9 := hide hab9; clear hv9 hab9
      go_wp2_with fail
      go_meet
      case rel =>
        exact ⟨w6.heap.size, A9, c9, rfl, Blk.new w6 [.slice A9 vs.length c9] 30, HV9.out.fut, hc1, hc2, Step.of⟩
    case rest =>
      obtain ⟨g9, A9, c9, rfl, hzb, hzv, hc9, hm9, hsV⟩ := hcut
      obtain ⟨V, rfl⟩ : ∃ x : World, x = wc := ⟨_, rfl⟩
      clear r0 lr
      have HZB := hide hzb; clear hzb
      have HVI := hide hzv
      have hvr := hzv
      rw [List.map_append] at hvr
      have HVR := hide hvr.pre; clear hvr hzv
      have HPI := hide (PrIn.of_own HLN.out.xo rfl hl hp.strs)
      have HSI := hide HLN.out.ys.sin
      obtain ⟨⟨t, d⟩, hT⟩ : ∃ T, truthR ns s vs = T := ⟨_, rfl⟩
      obtain ⟨C, hC⟩ : ∃ C, checkE ns s = C := ⟨_, rfl⟩
      have t1 := fun w' [Fut U w'] [Fut V w'] => ptruthR_any ns A7 c7 s A8 c8 vs A9 c9 w' HPI.out HSI.out HVR.out (by omega)
      have t2 := fun w' [Fut w w'] => rtruthR_any ns A cap s As cs vs Av cv w' hp hs hv (by omega) HVS.out
      have t3 := fun w' [Fut U w'] => pcheck_any ns A7 c7 s A8 c8 w' HPI.out HSI.out
      have t4 := fun w' [Fut w w'] => rcheck_any ns A cap s As cs w' hp hs
      rw [hT] at t1 t2
      rw [hC] at t3 t4
      have t5 := fun w' [Fut U w'] [Fut w w'] => keptSchema_any s A8 As c8 cs w' HLN.out.ys hs
      unfold Sch.val at t1 t2 t3 t4 t5
      have HT1 := hide t1; have HT2 := hide t2; have HT3 := hide t3; have HRC := hide t4; have HKS := hide t5
      clear t1 t2 t3 t4 t5
      have HPM := hide (fun w' [Fut U w'] => ppred_any ns A7 c7 w' HPI.out)
      have HRM := hide (fun w' [Fut w w'] => rpred_any ns A cap w' hp)
      have HPC := hide (fun w' [Fut U w'] => pcols_any ns A7 c7 w' HPI.out)
      have HCC := hide (fun w' [Fut w w'] => rcols_any ns A cap w' hp)
      have HCL : Hid ((colsT ns).length ≤ 4611686018427387904) := by have := colsT_len ns; show _ ≤ _; omega
      have HKP := hide (fun w' [Fut U w'] [Fut w w'] => kept_any ns A7 A c7 cap w' HPI.out hp)
      have HKV := hide (fun w' [Fut V w'] [Fut w w'] => keptValues_any vs A9 Av c9 cv w' HVI.out hv hc9 hm9 (by omega))
      have HAW := hide (fun w' => awake15_any w')
      have x0 := At.z1 (HLN.out.xb.fut (w' := V)).at0; have lx := (HLN.out.xb.fut (w' := V)).lt
      obtain ⟨y0, y1, y2⟩ := At.z3 (HLN.out.yb.fut (w' := V)).at0; have ly := (HLN.out.yb.fut (w' := V)).lt
      have z0 := At.z1 (HZB.out.fut (w' := V)).at0; have lz := (HZB.out.fut (w' := V)).lt
      go_wp2_with fail
      refine (HT1.out _).mono ?_
      rintro e V1 ⟨rfl, hsV1⟩
      clear x0 lx y0 y1 y2 ly z0 lz
      have p0 := At.z1 (HPW.out.fut (w' := V1)).at0; have lp := (HPW.out.fut (w' := V1)).lt
      obtain ⟨q0, q1, q2⟩ := At.z3 (HSW.out.fut (w' := V1)).at0; have lq := (HSW.out.fut (w' := V1)).lt
      have r0 := At.z1 (HRW.out.fut (w' := V1)).at0; have lr := (HRW.out.fut (w' := V1)).lt
      go_wp2_with fail
      refine (HT2.out _).mono ?_
      rintro e V2 ⟨rfl, hsV2⟩
      clear p0 lp q0 q1 q2 lq r0 lr
      have x0 := At.z1 (HLN.out.xb.fut (w' := V2)).at0; have lx := (HLN.out.xb.fut (w' := V2)).lt
      obtain ⟨y0, y1, y2⟩ := At.z3 (HLN.out.yb.fut (w' := V2)).at0; have ly := (HLN.out.yb.fut (w' := V2)).lt
      have z0 := At.z1 (HZB.out.fut (w' := V2)).at0; have lz := (HZB.out.fut (w' := V2)).lt
      go_wp2_with fail
      refine (HT3.out _).mono ?_
      rintro e W9 ⟨rfl, hsW9⟩
      clear x0 lx y0 y1 y2 ly z0 lz
      have p0 := At.z1 (HPW.out.fut (w' := W9)).at0; have lp := (HPW.out.fut (w' := W9)).lt
      obtain ⟨q0, q1, q2⟩ := At.z3 (HSW.out.fut (w' := W9)).at0; have lq := (HSW.out.fut (w' := W9)).lt
      have r0 := At.z1 (HRW.out.fut (w' := W9)).at0; have lr := (HRW.out.fut (w' := W9)).lt
      have x0 := At.z1 (HLN.out.xb.fut (w' := W9)).at0; have lx := (HLN.out.xb.fut (w' := W9)).lt
      obtain ⟨y0, y1, y2⟩ := At.z3 (HLN.out.yb.fut (w' := W9)).at0; have ly := (HLN.out.yb.fut (w' := W9)).lt
      have z0 := At.z1 (HZB.out.fut (w' := W9)).at0; have lz := (HZB.out.fut (w' := W9)).lt
      go_upto_region 6 with (fail)
      refine wp_region_held_drew (w := W9) (S := (fun w' => Step W9 w' ∧ (∀ b o, b < W9.heap.size → w'.cell? ⟨b, o, none⟩ = W9.cell? ⟨b, o, none⟩))) (by kernel_rfl) (by (try dsimp only); (first | exact ⟨hS1, hS2⟩ | exact ⟨Step.of, (bcell (fut _ _)).1⟩)) (fun hHeld => ?_)
      refine wpAnyH_take (i := 0) (oi := ⟨some 40, _, _, _, _, _⟩) (v := ?_) rfl (by kernel_rfl) (by kernel_rfl) (by kernel_rfl) (fun _ _ _ h => h) (Or.inl ⟨by rfl, ?_⟩) (by assumption) ?_
      rotate_left
      · ((intro w hSw); (try dsimp only at hSw); go_simp; (try with_reducible rfl))
      (try simp only [Act.put, List.setIfInBounds_toArray, List.set_cons_zero, List.set_cons_succ])
      refine wpAnyH_take (i := 1) (oi := ⟨some 41, _, _, _, _, _⟩) (v := ?_) rfl (by kernel_rfl) (by kernel_rfl) (by kernel_rfl) (fun _ _ _ h => h) (Or.inl ⟨by rfl, ?_⟩) (by assumption) ?_
      rotate_left
      · ((intro w hSw); (try dsimp only at hSw); go_simp; (try with_reducible rfl))
      (try simp only [Act.put, List.setIfInBounds_toArray, List.set_cons_zero, List.set_cons_succ])
      refine wpAnyH_take (i := 2) (oi := ⟨some 42, _, _, _, _, _⟩) (v := ?_) rfl (by kernel_rfl) (by kernel_rfl) (by kernel_rfl) (fun _ _ _ h => h) (Or.inl ⟨by rfl, ?_⟩) (by assumption) ?_
      rotate_left
      · ((intro w hSw); (try dsimp only at hSw); go_simp; (try with_reducible rfl))
      (try simp only [Act.put, List.setIfInBounds_toArray, List.set_cons_zero, List.set_cons_succ])
      refine wpAnyH_take (i := 3) (oi := ⟨some 43, _, _, _, _, _⟩) (v := ?_) rfl (by kernel_rfl) (by kernel_rfl) (by kernel_rfl) (fun _ _ _ h => h) (Or.inl ⟨by rfl, ?_⟩) (by assumption) ?_
      rotate_left
      · ((intro w hSw); (try dsimp only at hSw); go_simp; (try with_reducible rfl))
      (try simp only [Act.put, List.setIfInBounds_toArray, List.set_cons_zero, List.set_cons_succ])
      refine wpAnyH_take (i := 4) (oi := ⟨some 44, _, _, _, _, _⟩) (v := ?_) rfl (by kernel_rfl) (by kernel_rfl) (by kernel_rfl) (fun _ _ _ h => h) (Or.inl ⟨by rfl, ?_⟩) (by assumption) ?_
      rotate_left
      · ((intro w hSw); (try dsimp only at hSw); go_simp; (try with_reducible rfl))
      (try simp only [Act.put, List.setIfInBounds_toArray, List.set_cons_zero, List.set_cons_succ])
      refine wpAnyH_take (i := 6) (oi := ⟨some 46, _, _, _, _, _⟩) (v := ?_) rfl (by kernel_rfl) (by kernel_rfl) (by kernel_rfl) (fun _ _ _ h => h) (Or.inl ⟨by rfl, ?_⟩) (by assumption) ?_
      rotate_left
      · ((intro w hSw); (try dsimp only at hSw); go_simp; (try with_reducible rfl))
      (try simp only [Act.put, List.setIfInBounds_toArray, List.set_cons_zero, List.set_cons_succ])
      refine wpAnyH_ready (rs := [5]) (by kernel_rfl) (by simp) ?_
      refine AllReadyH.cons (o := ⟨some 45, _, _, _, _, _⟩) rfl (fun K hK => ?_) AllReadyH.nil
      obtain ⟨hS1, hS2⟩ := hHeld
      go_simp
      (go_at_call 20; (with_reducible refine (numv_any _ _).mono ?_); rintro e w' ⟨rfl, rfl⟩)
      refine hK.out _ _ (by (try dsimp only); (first | exact ⟨hS1, hS2⟩ | exact ⟨Step.of, (bcell (fut _ _)).1⟩)) (fun hHeld => ?_)
      clear hK K
      (try simp only [Act.put, List.setIfInBounds_toArray, List.set_cons_zero, List.set_cons_succ])
      refine wpAnyH_take (i := 7) (oi := ⟨some 47, _, _, _, _, _⟩) (v := ?_) rfl (by kernel_rfl) (by kernel_rfl) (by kernel_rfl) (fun _ _ _ h => h) (Or.inl ⟨by rfl, ?_⟩) (by assumption) ?_
      rotate_left
      · ((intro w hSw); (try dsimp only at hSw); go_simp; (try with_reducible rfl))
      (try simp only [Act.put, List.setIfInBounds_toArray, List.set_cons_zero, List.set_cons_succ])
      refine wpAnyH_take (i := 8) (oi := ⟨some 48, _, _, _, _, _⟩) (v := ?_) rfl (by kernel_rfl) (by kernel_rfl) (by kernel_rfl) (fun _ _ _ h => h) (Or.inl ⟨by rfl, ?_⟩) (by assumption) ?_
      rotate_left
      · ((intro w hSw); (try dsimp only at hSw); go_simp; (try with_reducible rfl))
      (try simp only [Act.put, List.setIfInBounds_toArray, List.set_cons_zero, List.set_cons_succ])
      refine wpAnyH_take (i := 9) (oi := ⟨some 49, _, _, _, _, _⟩) (v := ?_) rfl (by kernel_rfl) (by kernel_rfl) (by kernel_rfl) (fun _ _ _ h => h) (Or.inl ⟨by rfl, ?_⟩) (by assumption) ?_
      rotate_left
      · ((intro w hSw); (try dsimp only at hSw); go_simp; (try with_reducible rfl))
      (try simp only [Act.put, List.setIfInBounds_toArray, List.set_cons_zero, List.set_cons_succ])
      refine wpAnyH_take (i := 10) (oi := ⟨some 50, _, _, _, _, _⟩) (v := ?_) rfl (by kernel_rfl) (by kernel_rfl) (by kernel_rfl) (fun _ _ _ h => h) (Or.inl ⟨by rfl, ?_⟩) (by assumption) ?_
      rotate_left
      · ((intro w hSw); (try dsimp only at hSw); go_simp; (try with_reducible rfl))
      (try simp only [Act.put, List.setIfInBounds_toArray, List.set_cons_zero, List.set_cons_succ])
      refine wpAnyH_take (i := 12) (oi := ⟨some 52, _, _, _, _, _⟩) (v := ?_) rfl (by kernel_rfl) (by kernel_rfl) (by kernel_rfl) (fun _ _ _ h => h) (Or.inl ⟨by rfl, ?_⟩) (by assumption) ?_
      rotate_left
      · ((intro w hSw); (try dsimp only at hSw); go_simp; (try with_reducible rfl))
      (try simp only [Act.put, List.setIfInBounds_toArray, List.set_cons_zero, List.set_cons_succ])
      refine wpAnyH_take (i := 13) (oi := ⟨some 53, _, _, _, _, _⟩) (v := ?_) rfl (by kernel_rfl) (by kernel_rfl) (by kernel_rfl) (fun _ _ _ h => h) (Or.inl ⟨by rfl, ?_⟩) (by assumption) ?_
      rotate_left
      · ((intro w hSw); (try dsimp only at hSw); go_simp; (try with_reducible rfl))
      (try simp only [Act.put, List.setIfInBounds_toArray, List.set_cons_zero, List.set_cons_succ])
      refine wpAnyH_ready (rs := [11]) (by kernel_rfl) (by simp) ?_
      refine AllReadyH.cons (o := ⟨some 51, _, _, _, _, _⟩) rfl (fun K hK => ?_) AllReadyH.nil
      obtain ⟨hS1, hS2⟩ := hHeld
      go_simp
      (go_at_call 20; (with_reducible refine (numv_any _ _).mono ?_); rintro e w' ⟨rfl, rfl⟩)
      refine hK.out _ _ (by (try dsimp only); (first | exact ⟨hS1, hS2⟩ | exact ⟨Step.of, (bcell (fut _ _)).1⟩)) (fun hHeld => ?_)
      clear hK K
      (try simp only [Act.put, List.setIfInBounds_toArray, List.set_cons_zero, List.set_cons_succ])
      refine wpAnyH_ready (rs := [14]) (by kernel_rfl) (by simp) ?_
      refine AllReadyH.cons (o := ⟨some 54, _, _, _, _, _⟩) rfl (fun K hK => ?_) AllReadyH.nil
      obtain ⟨hS1, hS2⟩ := hHeld
      go_simp
      (go_at_call 21; (with_reducible refine (HRC.out _).mono ?_); rintro e u1 ⟨rfl, hqu1⟩)
      refine hK.out _ _ (by (try dsimp only); (first | exact ⟨hS1, hS2⟩ | exact ⟨Step.of, (bcell (fut _ _)).1⟩)) (fun hHeld => ?_)
      clear hK K
      (try simp only [Act.put, List.setIfInBounds_toArray, List.set_cons_zero, List.set_cons_succ])
      refine wpAnyH_take (i := 15) (oi := ⟨some 55, _, _, _, _, _⟩) (v := ?_) rfl (by kernel_rfl) (by kernel_rfl) (by kernel_rfl) (fun _ _ _ h => h) (Or.inl ⟨by rfl, ?_⟩) (by assumption) ?_
      rotate_left
      · ((intro w hSw); (try dsimp only at hSw); go_simp; (try with_reducible rfl))
      (try simp only [Act.put, List.setIfInBounds_toArray, List.set_cons_zero, List.set_cons_succ])
      refine wpAnyH_take (i := 16) (oi := ⟨some 56, _, _, _, _, _⟩) (v := ?_) rfl (by kernel_rfl) (by kernel_rfl) (by kernel_rfl) (fun _ _ _ h => h) (Or.inl ⟨by rfl, ?_⟩) (by assumption) ?_
      rotate_left
      · ((intro w hSw); (try dsimp only at hSw); go_simp; (try with_reducible rfl))
      (try simp only [Act.put, List.setIfInBounds_toArray, List.set_cons_zero, List.set_cons_succ])
      refine wpAnyH_take (i := 17) (oi := ⟨some 57, _, _, _, _, _⟩) (v := ?_) rfl (by kernel_rfl) (by kernel_rfl) (by kernel_rfl) (fun _ _ _ h => h) (Or.inl ⟨by rfl, ?_⟩) (by assumption) ?_
      rotate_left
      · ((intro w hSw); (try dsimp only at hSw); go_simp; (try with_reducible rfl))
      (try simp only [Act.put, List.setIfInBounds_toArray, List.set_cons_zero, List.set_cons_succ])
      refine wpAnyH_take (i := 18) (oi := ⟨some 58, _, _, _, _, _⟩) (v := ?_) rfl (by kernel_rfl) (by kernel_rfl) (by kernel_rfl) (fun _ _ _ h => h) (Or.inl ⟨by rfl, ?_⟩) (by assumption) ?_
      rotate_left
      · ((intro w hSw); (try dsimp only at hSw); go_simp; (try with_reducible rfl))
      (try simp only [Act.put, List.setIfInBounds_toArray, List.set_cons_zero, List.set_cons_succ])
      refine wpAnyH_take (i := 20) (oi := ⟨some 60, _, _, _, _, _⟩) (v := ?_) rfl (by kernel_rfl) (by kernel_rfl) (by kernel_rfl) (fun _ _ _ h => h) (Or.inl ⟨by rfl, ?_⟩) (by assumption) ?_
      rotate_left
      · ((intro w hSw); (try dsimp only at hSw); go_simp; (try with_reducible rfl))
      (try simp only [Act.put, List.setIfInBounds_toArray, List.set_cons_zero, List.set_cons_succ])
      refine wpAnyH_ready (rs := [19]) (by kernel_rfl) (by simp) ?_
      refine AllReadyH.cons (o := ⟨some 59, _, _, _, _, _⟩) rfl (fun K hK => ?_) AllReadyH.nil
      obtain ⟨hS1, hS2⟩ := hHeld
      go_simp
      (go_at_call 22; (with_reducible refine (HPM.out _).mono ?_); rintro e u2 ⟨rfl, hqu2⟩)
      refine hK.out _ _ (by (try dsimp only); (first | exact ⟨hS1, hS2⟩ | exact ⟨Step.of, (bcell (fut _ _)).1⟩)) (fun hHeld => ?_)
      clear hK K
      (try simp only [Act.put, List.setIfInBounds_toArray, List.set_cons_zero, List.set_cons_succ])
      refine wpAnyH_ready (rs := [21]) (by kernel_rfl) (by simp) ?_
      refine AllReadyH.cons (o := ⟨some 61, _, _, _, _, _⟩) rfl (fun K hK => ?_) AllReadyH.nil
      obtain ⟨hS1, hS2⟩ := hHeld
      go_simp
      (go_at_call 23; (with_reducible refine (HRM.out _).mono ?_); rintro e u3 ⟨rfl, hqu3⟩)
      refine hK.out _ _ (by (try dsimp only); (first | exact ⟨hS1, hS2⟩ | exact ⟨Step.of, (bcell (fut _ _)).1⟩)) (fun hHeld => ?_)
      clear hK K
      (try simp only [Act.put, List.setIfInBounds_toArray, List.set_cons_zero, List.set_cons_succ])
      refine wpAnyH_take (i := 22) (oi := ⟨some 62, _, _, _, _, _⟩) (v := ?_) rfl (by kernel_rfl) (by kernel_rfl) (by kernel_rfl) (fun _ _ _ h => h) (Or.inl ⟨by rfl, ?_⟩) (by assumption) ?_
      rotate_left
      · ((intro w hSw); (try dsimp only at hSw); go_simp; (try with_reducible rfl))
      (try simp only [Act.put, List.setIfInBounds_toArray, List.set_cons_zero, List.set_cons_succ])
      refine wpAnyH_take (i := 23) (oi := ⟨some 63, _, _, _, _, _⟩) (v := ?_) rfl (by kernel_rfl) (by kernel_rfl) (by kernel_rfl) (fun _ _ _ h => h) (Or.inl ⟨by rfl, ?_⟩) (by assumption) ?_
      rotate_left
      · ((intro w hSw); (try dsimp only at hSw); go_simp; (try with_reducible rfl))
      (try simp only [Act.put, List.setIfInBounds_toArray, List.set_cons_zero, List.set_cons_succ])
      refine wpAnyH_take (i := 24) (oi := ⟨some 64, _, _, _, _, _⟩) (v := ?_) rfl (by kernel_rfl) (by kernel_rfl) (by kernel_rfl) (fun _ _ _ h => h) (Or.inl ⟨by rfl, ?_⟩) (by assumption) ?_
      rotate_left
      · ((intro w hSw); (try dsimp only at hSw); go_simp; (try with_reducible rfl))
      (try simp only [Act.put, List.setIfInBounds_toArray, List.set_cons_zero, List.set_cons_succ])
      refine wpAnyH_take (i := 25) (oi := ⟨some 65, _, _, _, _, _⟩) (v := ?_) rfl (by kernel_rfl) (by kernel_rfl) (by kernel_rfl) (fun _ _ _ h => h) (Or.inl ⟨by rfl, ?_⟩) (by assumption) ?_
      rotate_left
      · ((intro w hSw); (try dsimp only at hSw); go_simp; (try with_reducible rfl))
      (try simp only [Act.put, List.setIfInBounds_toArray, List.set_cons_zero, List.set_cons_succ])
      refine wpAnyH_take (i := 27) (oi := ⟨some 67, _, _, _, _, _⟩) (v := ?_) rfl (by kernel_rfl) (by kernel_rfl) (by kernel_rfl) (fun _ _ _ h => h) (Or.inl ⟨by rfl, ?_⟩) (by assumption) ?_
      rotate_left
      · ((intro w hSw); (try dsimp only at hSw); go_simp; (try with_reducible rfl))
      (try simp only [Act.put, List.setIfInBounds_toArray, List.set_cons_zero, List.set_cons_succ])
      refine wpAnyH_ready (rs := [26]) (by kernel_rfl) (by simp) ?_
      refine AllReadyH.cons (o := ⟨some 66, _, _, _, _, _⟩) rfl (fun K hK => ?_) AllReadyH.nil
      obtain ⟨hS1, hS2⟩ := hHeld
      go_simp
      (go_at_call 25; (with_reducible refine (HPC.out _).mono ?_); intro e u4 hr4; obtain ⟨A4, c4, rfl, ho4, hqu4⟩ := hr4; have HO4 := hide ho4; clear ho4)
      refine hK.out _ _ (by (try dsimp only); (first | exact ⟨hS1, hS2⟩ | exact ⟨Step.of, (bcell (fut _ _)).1⟩)) (fun hHeld => ?_)
      clear hK K
      (try simp only [Act.put, List.setIfInBounds_toArray, List.set_cons_zero, List.set_cons_succ])
      refine wpAnyH_ready (rs := [28]) (by kernel_rfl) (by simp) ?_
      refine AllReadyH.cons (o := ⟨some 68, _, _, _, _, _⟩) rfl (fun K hK => ?_) AllReadyH.nil
      obtain ⟨hS1, hS2⟩ := hHeld
      go_simp
      (go_at_call 26; (with_reducible refine (HCC.out _).mono ?_); intro e u5 hr5; obtain ⟨A5, c5, rfl, ho5, hqu5⟩ := hr5; have HO5 := hide ho5; clear ho5)
      refine hK.out _ _ (by (try dsimp only); (first | exact ⟨hS1, hS2⟩ | exact ⟨Step.of, (bcell (fut _ _)).1⟩)) (fun hHeld => ?_)
      clear hK K
      (try simp only [Act.put, List.setIfInBounds_toArray, List.set_cons_zero, List.set_cons_succ])
      refine wpAnyH_ready (rs := [29]) (by kernel_rfl) (by simp) ?_
      refine AllReadyH.cons (o := ⟨some 69, _, _, _, _, _⟩) rfl (fun K hK => ?_) AllReadyH.nil
      obtain ⟨hS1, hS2⟩ := hHeld
      go_simp
      (go_at_call 24; refine (sameTexts_any (colsT ns) A4 A5 c4 c5 _ (HO4.out.sl (str_fit _).len) (HO5.out.sl (str_fit _).len) HCL.out).mono ?_; rintro e u6 ⟨rfl, hq6⟩)
      refine hK.out _ _ (by (try dsimp only); (first | exact ⟨hS1, hS2⟩ | exact ⟨Step.of, (bcell (fut _ _)).1⟩)) (fun hHeld => ?_)
      clear hK K
      (try simp only [Act.put, List.setIfInBounds_toArray, List.set_cons_zero, List.set_cons_succ])
      refine wpAnyH_take (i := 30) (oi := ⟨some 70, _, _, _, _, _⟩) (v := ?_) rfl (by kernel_rfl) (by kernel_rfl) (by kernel_rfl) (fun _ _ _ h => h) (Or.inl ⟨by rfl, ?_⟩) (by assumption) ?_
      rotate_left
      · ((intro w hSw); (try dsimp only at hSw); go_simp; (try with_reducible rfl))
      (try simp only [Act.put, List.setIfInBounds_toArray, List.set_cons_zero, List.set_cons_succ])
      refine wpAnyH_take (i := 31) (oi := ⟨some 71, _, _, _, _, _⟩) (v := ?_) rfl (by kernel_rfl) (by kernel_rfl) (by kernel_rfl) (fun _ _ _ h => h) (Or.inl ⟨by rfl, ?_⟩) (by assumption) ?_
      rotate_left
      · ((intro w hSw); (try dsimp only at hSw); go_simp; (try with_reducible rfl))
      (try simp only [Act.put, List.setIfInBounds_toArray, List.set_cons_zero, List.set_cons_succ])
      refine wpAnyH_take (i := 32) (oi := ⟨some 72, _, _, _, _, _⟩) (v := ?_) rfl (by kernel_rfl) (by kernel_rfl) (by kernel_rfl) (fun _ _ _ h => h) (Or.inl ⟨by rfl, ?_⟩) (by assumption) ?_
      rotate_left
      · ((intro w hSw); (try dsimp only at hSw); go_simp; (try with_reducible rfl))
      (try simp only [Act.put, List.setIfInBounds_toArray, List.set_cons_zero, List.set_cons_succ])
      refine wpAnyH_take (i := 33) (oi := ⟨some 73, _, _, _, _, _⟩) (v := ?_) rfl (by kernel_rfl) (by kernel_rfl) (by kernel_rfl) (fun _ _ _ h => h) (Or.inl ⟨by rfl, ?_⟩) (by assumption) ?_
      rotate_left
      · ((intro w hSw); (try dsimp only at hSw); go_simp; (try with_reducible rfl))
      (try simp only [Act.put, List.setIfInBounds_toArray, List.set_cons_zero, List.set_cons_succ])
      refine wpAnyH_ready (rs := [34]) (by kernel_rfl) (by simp) ?_
      refine AllReadyH.cons (o := ⟨some 74, _, _, _, _, _⟩) rfl (fun K hK => ?_) AllReadyH.nil
      obtain ⟨hS1, hS2⟩ := hHeld
      go_simp
      (go_at_call 27; (with_reducible refine (HKP.out _).mono ?_); rintro e u7 ⟨rfl, hqu7⟩)
      refine hK.out _ _ (by (try dsimp only); (first | exact ⟨hS1, hS2⟩ | exact ⟨Step.of, (bcell (fut _ _)).1⟩)) (fun hHeld => ?_)
      clear hK K
      (try simp only [Act.put, List.setIfInBounds_toArray, List.set_cons_zero, List.set_cons_succ])
      refine wpAnyH_take (i := 35) (oi := ⟨some 75, _, _, _, _, _⟩) (v := ?_) rfl (by kernel_rfl) (by kernel_rfl) (by kernel_rfl) (fun _ _ _ h => h) (Or.inl ⟨by rfl, ?_⟩) (by assumption) ?_
      rotate_left
      · ((intro w hSw); (try dsimp only at hSw); go_simp; (try with_reducible rfl))
      (try simp only [Act.put, List.setIfInBounds_toArray, List.set_cons_zero, List.set_cons_succ])
      refine wpAnyH_take (i := 36) (oi := ⟨some 76, _, _, _, _, _⟩) (v := ?_) rfl (by kernel_rfl) (by kernel_rfl) (by kernel_rfl) (fun _ _ _ h => h) (Or.inl ⟨by rfl, ?_⟩) (by assumption) ?_
      rotate_left
      · ((intro w hSw); (try dsimp only at hSw); go_simp; (try with_reducible rfl))
      (try simp only [Act.put, List.setIfInBounds_toArray, List.set_cons_zero, List.set_cons_succ])
      refine wpAnyH_take (i := 37) (oi := ⟨some 77, _, _, _, _, _⟩) (v := ?_) rfl (by kernel_rfl) (by kernel_rfl) (by kernel_rfl) (fun _ _ _ h => h) (Or.inl ⟨by rfl, ?_⟩) (by assumption) ?_
      rotate_left
      · ((intro w hSw); (try dsimp only at hSw); go_simp; (try with_reducible rfl))
      (try simp only [Act.put, List.setIfInBounds_toArray, List.set_cons_zero, List.set_cons_succ])
      refine wpAnyH_take (i := 38) (oi := ⟨some 78, _, _, _, _, _⟩) (v := ?_) rfl (by kernel_rfl) (by kernel_rfl) (by kernel_rfl) (fun _ _ _ h => h) (Or.inl ⟨by rfl, ?_⟩) (by assumption) ?_
      rotate_left
      · ((intro w hSw); (try dsimp only at hSw); go_simp; (try with_reducible rfl))
      (try simp only [Act.put, List.setIfInBounds_toArray, List.set_cons_zero, List.set_cons_succ])
      refine wpAnyH_ready (rs := [39]) (by kernel_rfl) (by simp) ?_
      refine AllReadyH.cons (o := ⟨some 79, _, _, _, _, _⟩) rfl (fun K hK => ?_) AllReadyH.nil
      obtain ⟨hS1, hS2⟩ := hHeld
      go_simp
      (go_at_call 28; (with_reducible refine (HKS.out _).mono ?_); rintro e u8 ⟨rfl, hqu8⟩)
      refine hK.out _ _ (by (try dsimp only); (first | exact ⟨hS1, hS2⟩ | exact ⟨Step.of, (bcell (fut _ _)).1⟩)) (fun hHeld => ?_)
      clear hK K
      (try simp only [Act.put, List.setIfInBounds_toArray, List.set_cons_zero, List.set_cons_succ])
      refine wpAnyH_take (i := 40) (oi := ⟨some 80, _, _, _, _, _⟩) (v := ?_) rfl (by kernel_rfl) (by kernel_rfl) (by kernel_rfl) (fun _ _ _ h => h) (Or.inl ⟨by rfl, ?_⟩) (by assumption) ?_
      rotate_left
      · ((intro w hSw); (try dsimp only at hSw); go_simp; (try with_reducible rfl))
      (try simp only [Act.put, List.setIfInBounds_toArray, List.set_cons_zero, List.set_cons_succ])
      refine wpAnyH_take (i := 41) (oi := ⟨some 81, _, _, _, _, _⟩) (v := ?_) rfl (by kernel_rfl) (by kernel_rfl) (by kernel_rfl) (fun _ _ _ h => h) (Or.inl ⟨by rfl, ?_⟩) (by assumption) ?_
      rotate_left
      · ((intro w hSw); (try dsimp only at hSw); go_simp; (try with_reducible rfl))
      (try simp only [Act.put, List.setIfInBounds_toArray, List.set_cons_zero, List.set_cons_succ])
      refine wpAnyH_take (i := 42) (oi := ⟨some 82, _, _, _, _, _⟩) (v := ?_) rfl (by kernel_rfl) (by kernel_rfl) (by kernel_rfl) (fun _ _ _ h => h) (Or.inl ⟨by rfl, ?_⟩) (by assumption) ?_
      rotate_left
      · ((intro w hSw); (try dsimp only at hSw); go_simp; (try with_reducible rfl))
      (try simp only [Act.put, List.setIfInBounds_toArray, List.set_cons_zero, List.set_cons_succ])
      refine wpAnyH_take (i := 43) (oi := ⟨some 83, _, _, _, _, _⟩) (v := ?_) rfl (by kernel_rfl) (by kernel_rfl) (by kernel_rfl) (fun _ _ _ h => h) (Or.inl ⟨by rfl, ?_⟩) (by assumption) ?_
      rotate_left
      · ((intro w hSw); (try dsimp only at hSw); go_simp; (try with_reducible rfl))
      (try simp only [Act.put, List.setIfInBounds_toArray, List.set_cons_zero, List.set_cons_succ])
      refine wpAnyH_take (i := 44) (oi := ⟨some 84, _, _, _, _, _⟩) (v := ?_) rfl (by kernel_rfl) (by kernel_rfl) (by kernel_rfl) (fun _ _ _ h => h) (Or.inl ⟨by rfl, ?_⟩) (by assumption) ?_
      rotate_left
      · ((intro w hSw); (try dsimp only at hSw); go_simp; (try with_reducible rfl))
      (try simp only [Act.put, List.setIfInBounds_toArray, List.set_cons_zero, List.set_cons_succ])
      refine wpAnyH_take (i := 45) (oi := ⟨some 85, _, _, _, _, _⟩) (v := ?_) rfl (by kernel_rfl) (by kernel_rfl) (by kernel_rfl) (fun _ _ _ h => h) (Or.inl ⟨by rfl, ?_⟩) (by assumption) ?_
      rotate_left
      · ((intro w hSw); (try dsimp only at hSw); go_simp; (try with_reducible rfl))
      (try simp only [Act.put, List.setIfInBounds_toArray, List.set_cons_zero, List.set_cons_succ])
      refine wpAnyH_ready (rs := [46]) (by kernel_rfl) (by simp) ?_
      refine AllReadyH.cons (o := ⟨some 86, _, _, _, _, _⟩) rfl (fun K hK => ?_) AllReadyH.nil
      obtain ⟨hS1, hS2⟩ := hHeld
      go_simp
      (go_at_call 29; (with_reducible refine (HKV.out _).mono ?_); rintro e u9 ⟨rfl, hqu9⟩)
      refine hK.out _ _ (by (try dsimp only); (first | exact ⟨hS1, hS2⟩ | exact ⟨Step.of, (bcell (fut _ _)).1⟩)) (fun hHeld => ?_)
      clear hK K
      (try simp only [Act.put, List.setIfInBounds_toArray, List.set_cons_zero, List.set_cons_succ])
      refine wpAnyH_take (i := 47) (oi := ⟨some 87, _, _, _, _, _⟩) (v := ?_) rfl (by kernel_rfl) (by kernel_rfl) (by kernel_rfl) (fun _ _ _ h => h) (Or.inl ⟨by rfl, ?_⟩) (by assumption) ?_
      rotate_left
      · ((intro w hSw); (try dsimp only at hSw); go_simp; (try with_reducible rfl))
      (try simp only [Act.put, List.setIfInBounds_toArray, List.set_cons_zero, List.set_cons_succ])
      refine wpAnyH_take (i := 48) (oi := ⟨some 88, _, _, _, _, _⟩) (v := ?_) rfl (by kernel_rfl) (by kernel_rfl) (by kernel_rfl) (fun _ _ _ h => h) (Or.inl ⟨by rfl, ?_⟩) (by assumption) ?_
      rotate_left
      · ((intro w hSw); (try dsimp only at hSw); go_simp; (try with_reducible rfl))
      (try simp only [Act.put, List.setIfInBounds_toArray, List.set_cons_zero, List.set_cons_succ])
      refine wpAnyH_ready (rs := [49]) (by kernel_rfl) (by simp) ?_
      refine AllReadyH.cons (o := ⟨some 89, _, _, _, _, _⟩) rfl (fun K hK => ?_) AllReadyH.nil
      obtain ⟨hS1, hS2⟩ := hHeld
      go_simp
      (go_at_call 30; (with_reducible refine (HAW.out _).mono ?_); rintro e u10 ⟨rfl, hqu10⟩)
      refine hK.out _ _ (by (try dsimp only); (first | exact ⟨hS1, hS2⟩ | exact ⟨Step.of, (bcell (fut _ _)).1⟩)) (fun hHeld => ?_)
      clear hK K
      (try simp only [Act.put, List.setIfInBounds_toArray, List.set_cons_zero, List.set_cons_succ])
      refine wpAnyH_take (i := 50) (oi := ⟨some 90, _, _, _, _, _⟩) (v := ?_) rfl (by kernel_rfl) (by kernel_rfl) (by kernel_rfl) (fun _ _ _ h => h) (Or.inl ⟨by rfl, ?_⟩) (by assumption) ?_
      rotate_left
      · ((intro w hSw); (try dsimp only at hSw); go_simp; (try with_reducible rfl))
      (try simp only [Act.put, List.setIfInBounds_toArray, List.set_cons_zero, List.set_cons_succ])
      refine wpAnyH_take (i := 51) (oi := ⟨some 6, _, _, _, _, _⟩) (v := ?_) rfl (by kernel_rfl) (by kernel_rfl) (by kernel_rfl) (fun _ _ _ h => h) (Or.inl ⟨by rfl, ?_⟩) (by assumption) ?_
      rotate_left
      · ((intro w hSw); (try dsimp only at hSw); go_simp; (try with_reducible rfl))
      (try simp only [Act.put, List.setIfInBounds_toArray, List.set_cons_zero, List.set_cons_succ])
      refine wpAnyH_done (by kernel_rfl) ?_ _
      go_wp2_with fail
      go_ret
      exact ⟨rfl, Step.of⟩
end Go.Proofs.YtcgpfllkbflbhaaDoor
