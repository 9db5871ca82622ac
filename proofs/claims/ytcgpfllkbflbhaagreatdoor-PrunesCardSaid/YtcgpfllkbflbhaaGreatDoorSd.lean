/-
  What statistics tell of a node.
-/
import Derived.Test.YtcgpfllkbflbhaaGreatDoorSc
namespace Go.Proofs.YtcgpfllkbflbhaaGreatDoor
open Go.RowKit

/-- One column's statistics. -/
structure Sta where
  col : Int
  nulls : Int
  mn : Val
  mx : Val
def Sta.cells (t : Sta) : List Value := [.int .i64 t.col, .int .i64 t.nulls, .int .i64 t.mn.kind, .int .i64 t.mn.i, .bool t.mn.b, .string t.mn.s, .int .i64 t.mx.kind, .int .i64 t.mx.i, .bool t.mx.b, .string t.mx.s]
theorem clean_box (v : Val) : (clean v).cells = v.box := by
  show [_, _, _, _] = [_, _, _, _]
  rw [clean_kind]
/-- The two bounds that are laid into new variables: before the stores .. -/
structure Tl0 (W wx : World) (mn mx : Val) (g8 g9 : Nat) : Prop where
  xb : Blk wx g8 51 [.int .i64 0, .int .i64 0, .bool false, .string ⟨#[]⟩]
  yb : Blk wx g9 51 [.int .i64 0, .int .i64 0, .bool false, .string ⟨#[]⟩]
  ne : g8 ≠ g9
  lx : W.heap.size ≤ g8
  ly : W.heap.size ≤ g9
  st : Step W wx
/-- .. and behind them. -/
structure Tl (W wx : World) (mn mx : Val) (g8 g9 : Nat) : Prop where
  xb : Blk wx g8 51 mn.box
  yb : Blk wx g9 51 mx.box
  st : Step W wx
theorem Tl0.done {base wx : World} {mn mx : Val} {g8 g9 : Nat} (h : Tl0 base wx mn mx g8 g9) :
    Tl base ((((((((wx.setCell ⟨g8, 0, none⟩ (.int .i64 (kindV mn))).setCell ⟨g8, 1, none⟩ (.int .i64 (clean mn).i)).setCell ⟨g8, 2, none⟩ (.bool (clean mn).b)).setCell ⟨g8, 3, none⟩ (.string (clean mn).s)).setCell ⟨g9, 0, none⟩ (.int .i64 (kindV mx))).setCell ⟨g9, 1, none⟩ (.int .i64 (clean mx).i)).setCell ⟨g9, 2, none⟩ (.bool (clean mx).b)).setCell ⟨g9, 3, none⟩ (.string (clean mx).s)) mn mx g8 g9 :=
  ⟨(h.xb.put4 _ _ _ _).far4 h.ne _ _ _ _, (h.yb.far4 (Ne.symm h.ne) _ _ _ _).put4 _ _ _ _, ⟨below4 (below4 h.st.below h.lx _ _ _ _) h.ly _ _ _ _⟩⟩
theorem pof_k0 (w : World) (b : Nat) (hb : b = w.heap.size) : Calls Tryz.prog 28 #[.slice (some ⟨b, 0, none⟩) 1 1] (w.alloc (.cells #[.int .i64 0] 3)) fun e w' => e = .returned (.int .u64 1) ∧ w.alloc (.cells #[.int .i64 0] 3) = w' := by
  subst hb
  exact pof_one 0 _ _ (Blk.new w [.int .i64 0] 3) (by decide)
theorem pof_k1 (w : World) (b : Nat) (hb : b = w.heap.size) : Calls Tryz.prog 28 #[.slice (some ⟨b, 0, none⟩) 1 1] (w.alloc (.cells #[.int .i64 1] 3)) fun e w' => e = .returned (.int .u64 2) ∧ w.alloc (.cells #[.int .i64 1] 3) = w' := by
  subst hb
  exact pof_one 1 _ _ (Blk.new w [.int .i64 1] 3) (by decide)
theorem pof_k2 (w : World) (b : Nat) (hb : b = w.heap.size) : Calls Tryz.prog 28 #[.slice (some ⟨b, 0, none⟩) 1 1] (w.alloc (.cells #[.int .i64 2] 3)) fun e w' => e = .returned (.int .u64 4) ∧ w.alloc (.cells #[.int .i64 2] 3) = w' := by
  subst hb
  exact pof_one 2 _ _ (Blk.new w [.int .i64 2] 3) (by decide)
theorem oppC_bd (c : Int) : 0 ≤ oppC c ∧ oppC c ≤ 5 := by unfold oppC; repeat' split <;> omega
def bitS (b : Bool) (n : Nat) : Nat := if b then n else 0
/-- The truths that may be of a node, by statistics. -/
def toldS (n : Nod) (st : Sta) (rows : Int) : Nat :=
  if n.kind = 2 then orS (bitS (decide (0 < st.nulls)) 2) (bitS (decide (st.nulls < rows)) 1)
  else if st.nulls < rows then orS (orS (bitS (decide (0 < st.nulls)) 4) (bitS (someB n.cmp (clean st.mn) (clean st.mx) n.v) 2)) (bitS (someB (oppC n.cmp) (clean st.mn) (clean st.mx) n.v) 1)
  else bitS (decide (0 < st.nulls)) 4

set_option maxRecDepth 100000 in
set_option maxHeartbeats 16000000 in
theorem ptold_any {w0 : World} (b o : Nat) (n : Nod) (col nulls rows : Int) (mn mx : Val) (w : World) (hn : At w0 b o n.cells) (hb : b < w0.heap.size) [hf : Fut w0 w] (hc : n.kind = 2 ∨ (0 ≤ n.cmp ∧ n.cmp ≤ 5)) :
    Calls Tryz.prog 27 #[.pointer (some ⟨b, o, none⟩), .agg #[.int .i64 col, .int .i64 nulls, .int .i64 mn.kind, .int .i64 mn.i, .bool mn.b, .string mn.s, .int .i64 mx.kind, .int .i64 mx.i, .bool mx.b, .string mx.s], .int .i64 rows] w fun e w' => e = .returned (.int .u64 ((toldS n ⟨col, nulls, mn, mx⟩ rows : Nat) : Int)) ∧ Step w w' := by
  have hz := hf.below.size
  have HN := hide hn; clear hn
  obtain ⟨W, hW⟩ : ∃ W, W = w.alloc (.cells #[.int .i64 col, .int .i64 nulls, .int .i64 mn.kind, .int .i64 mn.i, .bool mn.b, .string mn.s, .int .i64 mx.kind, .int .i64 mx.i, .bool mx.b, .string mx.s] 53) := ⟨_, rfl⟩
  have SW : Step w W := by rw [hW]; exact Step.of
  have HSB : Hid (Blk W w.heap.size 53 [.int .i64 col, .int .i64 nulls, .int .i64 mn.kind, .int .i64 mn.i, .bool mn.b, .string mn.s, .int .i64 mx.kind, .int .i64 mx.i, .bool mx.b, .string mx.s]) := by rw [hW]; exact Blk.new w [.int .i64 col, .int .i64 nulls, .int .i64 mn.kind, .int .i64 mn.i, .bool mn.b, .string mn.s, .int .i64 mx.kind, .int .i64 mx.i, .bool mx.b, .string mx.s] 53
  have HW := hide hW; clear hW
  obtain ⟨R, hR⟩ : ∃ R, toldS n ⟨col, nulls, mn, mx⟩ rows = R := ⟨_, rfl⟩
  rw [hR]
  have HTR := hide hR; clear hR
  have PMN := hide (plain_ag mn)
  have PMX := hide (plain_ag mx)
  go_enter Tryz.func27, Tryz.ntmps27
  go_upto_region 1 with (fail)
  rw [← HW.out]
  have hzw := SW.size
  obtain ⟨n0, n1, n2, n3, n4, n5, n6, n7, n8⟩ := At.l9 (HN.out.below (fut w0 W) hb)
  have hlt1 : b < W.heap.size := by omega
  obtain ⟨t0, t1, t2, t3, t4, t5, t6, t7, t8, t9⟩ := At.z10 HSB.out.at0
  have lt_ := HSB.out.lt
  by_cases hk : n.kind = 2
  · have e2 : (n.kind == 2) = true := by simpa using hk
    have HR : Hid (toldS n ⟨col, nulls, mn, mx⟩ rows = orS (bitS (decide (0 < nulls)) 2) (bitS (decide (nulls < rows)) 1)) := by show _ = _; rw [toldS, if_pos hk]
    clear hk
    by_cases h1 : 0 < nulls <;> by_cases h2 : nulls < rows
    all_goals
      have B1 := hide (show bitS (decide (0 < nulls)) 2 = (if 0 < nulls then 2 else 0) by simp [bitS])
      have B2 := hide (show bitS (decide (nulls < rows)) 1 = (if nulls < rows then 1 else 0) by simp [bitS])
      first | rw [if_pos h1] at B1 | rw [if_neg h1] at B1
      first | rw [if_pos h2] at B2 | rw [if_neg h2] at B2
      go_wp2_with (first | (go_at_call 28; first | (with_reducible refine (pof_k1 _ _ (by first | rfl | simp)).mono ?_; rintro e w' ⟨rfl, rfl⟩) | (with_reducible refine (pof_k0 _ _ (by first | rfl | simp)).mono ?_; rintro e w' ⟨rfl, rfl⟩) | (with_reducible refine (pof_k2 _ _ (by first | rfl | simp)).mono ?_; rintro e w' ⟨rfl, rfl⟩)))
      go_ret
      exact ⟨by rw [← HTR.out, HR.out, B1.out, B2.out]; rfl, Step.of⟩
  · have e2 : (n.kind == 2) = false := by simpa using hk
    have hc' : 0 ≤ n.cmp ∧ n.cmp ≤ 5 := by rcases hc with h | h; exact absurd h hk; exact h
    have HR : Hid (toldS n ⟨col, nulls, mn, mx⟩ rows = if nulls < rows then orS (orS (bitS (decide (0 < nulls)) 4) (bitS (someB n.cmp (clean mn) (clean mx) n.v) 2)) (bitS (someB (oppC n.cmp) (clean mn) (clean mx) n.v) 1) else bitS (decide (0 < nulls)) 4) := by show _ = _; rw [toldS, if_neg hk]
    clear hk hc
    go_upto_if 33 with (fail)
    go_cut [7] from 31 to 37 (fun s wx => ∃ p : Nat, (p = 0 ∨ p = 4) ∧ s = .int .u64 (p : Int) ∧ Hid (bitS (decide (0 < nulls)) 4 = p) ∧ Step W wx)
    case first =>
      by_cases h1 : 0 < nulls
      all_goals
        have B1 := hide (show bitS (decide (0 < nulls)) 4 = (if 0 < nulls then 4 else 0) by simp [bitS])
        first | rw [if_pos h1] at B1 | rw [if_neg h1] at B1
        go_wp2_with (first | (go_at_call 28; first | (with_reducible refine (pof_k1 _ _ (by first | rfl | simp)).mono ?_; rintro e w' ⟨rfl, rfl⟩) | (with_reducible refine (pof_k0 _ _ (by first | rfl | simp)).mono ?_; rintro e w' ⟨rfl, rfl⟩) | (with_reducible refine (pof_k2 _ _ (by first | rfl | simp)).mono ?_; rintro e w' ⟨rfl, rfl⟩)))
        go_meet
        case rel => first | exact ⟨4, .inr rfl, rfl, B1, Step.of⟩ | exact ⟨0, .inl rfl, rfl, B1, Step.of⟩
    case rest =>
      obtain ⟨p, hp, rfl, HP, hsV⟩ := hcut
      obtain ⟨V, rfl⟩ : ∃ x : World, x = wc := ⟨_, rfl⟩
      clear n0 n1 n2 n3 n4 n5 n6 n7 n8 hlt1 t0 t1 t2 t3 t4 t5 t6 t7 t8 t9 lt_
      have zV := hsV.size
      have HRP : Hid (toldS n ⟨col, nulls, mn, mx⟩ rows = if nulls < rows then orS (orS p (bitS (someB n.cmp (clean mn) (clean mx) n.v) 2)) (bitS (someB (oppC n.cmp) (clean mn) (clean mx) n.v) 1) else p) := by show _ = _; rw [HR.out, HP.out]
      clear HR HP
      obtain ⟨t0, t1, t2, t3, t4, t5, t6, t7, t8, t9⟩ := At.z10 (HSB.out.fut (w' := V)).at0
      have lt_ := (HSB.out.fut (w' := V)).lt
      by_cases hnr : nulls < rows
      · have HR2 := HRP.out
        rw [if_pos hnr] at HR2
        have HR2 := hide HR2; clear HRP
        go_upto_region 11 with (fail)
        clear hnr
        go_cut [8, 9] from 42 to 47 (fun x y wx => ∃ g8 g9 : Nat, x = .pointer (some ⟨g8, 0, none⟩) ∧ y = .pointer (some ⟨g9, 0, none⟩) ∧ Tl V wx mn mx g8 g9)
        case first =>
          clear hzw zV hz
          refine wp_region_held_drew (S := (fun w' => Step V w' ∧ (∀ b o, b < V.heap.size → w'.cell? ⟨b, o, none⟩ = V.cell? ⟨b, o, none⟩))) (by kernel_rfl) (by (try dsimp only); (first | exact ⟨hS1, hS2⟩ | exact ⟨Step.of, (bcell (fut _ _)).1⟩)) (fun hHeld => ?_)
          refine wpAnyH_take (i := 0) (oi := ⟨some 42, _, _, _, _, _⟩) (v := ?_) rfl (by kernel_rfl) (by kernel_rfl) (by kernel_rfl) (fun _ _ _ h => h) (Or.inl ⟨by rfl, ?_⟩) (by assumption) ?_
          rotate_left
          · ((intro w hSw); (try dsimp only at hSw); go_simp; (try with_reducible rfl))
          (try simp only [Act.put, List.setIfInBounds_toArray, List.set_cons_zero, List.set_cons_succ])
          refine wpAnyH_take (i := 1) (oi := ⟨some 43, _, _, _, _, _⟩) (v := ?_) rfl (by kernel_rfl) (by kernel_rfl) (by kernel_rfl) (fun _ _ _ h => h) (Or.inl ⟨by rfl, ?_⟩) (by assumption) ?_
          rotate_left
          · ((intro w hSw); (try dsimp only at hSw); go_simp; (try with_reducible rfl))
          (try simp only [Act.put, List.setIfInBounds_toArray, List.set_cons_zero, List.set_cons_succ])
          refine wpAnyH_take (i := 3) (oi := ⟨some 45, _, _, _, _, _⟩) (v := ?_) rfl (by kernel_rfl) (by kernel_rfl) (by kernel_rfl) (fun _ _ _ h => h) (Or.inl ⟨by rfl, ?_⟩) (by assumption) ?_
          rotate_left
          · ((intro w hSw); (try dsimp only at hSw); go_simp; (try with_reducible rfl))
          (try simp only [Act.put, List.setIfInBounds_toArray, List.set_cons_zero, List.set_cons_succ])
          refine wpAnyH_take (i := 4) (oi := ⟨some 46, _, _, _, _, _⟩) (v := ?_) rfl (by kernel_rfl) (by kernel_rfl) (by kernel_rfl) (fun _ _ _ h => h) (Or.inl ⟨by rfl, ?_⟩) (by assumption) ?_
          rotate_left
          · ((intro w hSw); (try dsimp only at hSw); go_simp; (try with_reducible rfl))
          (try simp only [Act.put, List.setIfInBounds_toArray, List.set_cons_zero, List.set_cons_succ])
          refine wpAnyH_ready (rs := [2, 6, 7]) (by kernel_rfl) (by simp) ?_
          refine AllReadyH.cons (o := ⟨some 44, _, _, _, _, _⟩) rfl (fun K hK => ?_) (AllReadyH.cons (o := ⟨some 8, _, _, _, _, _⟩) rfl (fun K hK => ?_) (AllReadyH.cons (o := ⟨some 9, _, _, _, _, _⟩) rfl (fun K hK => ?_) AllReadyH.nil))
          · obtain ⟨hS1, hS2⟩ := hHeld
            go_simp
            (go_at_call 54; (with_reducible refine (PMN.out _).mono ?_); intro e w5 hr5; obtain ⟨rfl, hs5⟩ := hr5; have z5 := hs5.size; (try simp only [hdz] at z5); (try simp only [hsz] at z5); (try simp only [hdz] at z5))
            refine hK.out _ _ (by (try dsimp only); (first | exact ⟨hS1, hS2⟩ | exact ⟨Step.of, (bcell (fut _ _)).1⟩)) (fun hHeld => ?_)
            clear hK K
            (try simp only [Act.put, List.setIfInBounds_toArray, List.set_cons_zero, List.set_cons_succ])
            refine wpAnyH_ready (rs := [5, 6, 7]) (by kernel_rfl) (by simp) ?_
            refine AllReadyH.cons (o := ⟨some 47, _, _, _, _, _⟩) rfl (fun K hK => ?_) (AllReadyH.cons (o := ⟨some 8, _, _, _, _, _⟩) rfl (fun K hK => ?_) (AllReadyH.cons (o := ⟨some 9, _, _, _, _, _⟩) rfl (fun K hK => ?_) AllReadyH.nil))
            · obtain ⟨hS1, hS2⟩ := hHeld
              go_simp
              (go_at_call 54; (with_reducible refine (PMX.out _).mono ?_); intro e w6 hr6; obtain ⟨rfl, hs6⟩ := hr6; have z6 := hs6.size; (try simp only [hdz] at z6); (try simp only [hsz] at z6); (try simp only [hdz] at z6))
              refine hK.out _ _ (by (try dsimp only); (first | exact ⟨hS1, hS2⟩ | exact ⟨Step.of, (bcell (fut _ _)).1⟩)) (fun hHeld => ?_)
              clear hK K
              (try simp only [Act.put, List.setIfInBounds_toArray, List.set_cons_zero, List.set_cons_succ])
              refine wpAnyH_ready (rs := [6, 7]) (by kernel_rfl) (by simp) ?_
              refine AllReadyH.cons (o := ⟨some 8, _, _, _, _, _⟩) rfl (fun K hK => ?_) (AllReadyH.cons (o := ⟨some 9, _, _, _, _, _⟩) rfl (fun K hK => ?_) AllReadyH.nil)
              · go_simp
                refine hK.out _ _ (by (try dsimp only); (exact ⟨Step.of, (bcell (fut _ _)).1⟩)) (fun hHeld => ?_)
                clear hK K
                (try simp only [Act.put, List.setIfInBounds_toArray, List.set_cons_zero, List.set_cons_succ])
                refine wpAnyH_ready (rs := [7]) (by kernel_rfl) (by simp) ?_
                refine AllReadyH.cons (o := ⟨some 9, _, _, _, _, _⟩) rfl (fun K hK => ?_) AllReadyH.nil
                go_simp
                refine hK.out _ _ (by (try dsimp only); (exact ⟨Step.of, (bcell (fut _ _)).1⟩)) (fun hHeld => ?_)
                clear hK K
                (try simp only [Act.put, List.setIfInBounds_toArray, List.set_cons_zero, List.set_cons_succ])
                refine wpAnyH_ready (rs := [8]) (by kernel_rfl) (by simp) ?_
                refine AllReadyH.cons (o := ⟨none, _, _, _, _, _⟩) rfl (fun K hK => ?_) AllReadyH.nil
                go_simp
                refine hK.out _ _ (by (try dsimp only); (exact ⟨Step.of, (bcell (fut _ _)).1⟩)) (fun hHeld => ?_)
                clear hK K
                (try simp only [Act.put, List.setIfInBounds_toArray, List.set_cons_zero, List.set_cons_succ])
                refine wpAnyH_ready (rs := [9]) (by kernel_rfl) (by simp) ?_
                refine AllReadyH.cons (o := ⟨none, _, _, _, _, _⟩) rfl (fun K hK => ?_) AllReadyH.nil
                go_simp
                refine hK.out _ _ (by (try dsimp only); (exact ⟨Step.of, (bcell (fut _ _)).1⟩)) (fun hHeld => ?_)
                clear hK K
                (try simp only [Act.put, List.setIfInBounds_toArray, List.set_cons_zero, List.set_cons_succ])
                refine wpAnyH_done (by kernel_rfl) ?_ _
                go_wp2_with fail
                go_meet
                case rel =>
                  have hd := Tl0.done (base := V) (mn := mn) (mx := mx) (g8 := w6.heap.size) (g9 := w6.heap.size + 1) (wx := ((w6.alloc (.cells #[.int .i64 0, .int .i64 0, .bool false, .string ⟨#[]⟩] 51)).alloc (.cells #[.int .i64 0, .int .i64 0, .bool false, .string ⟨#[]⟩] 51))) ⟨(Blk.new w6 [.int .i64 0, .int .i64 0, .bool false, .string ⟨#[]⟩] 51).fut, (Blk.new_at (w := (w6.alloc (.cells #[.int .i64 0, .int .i64 0, .bool false, .string ⟨#[]⟩] 51))) (b := w6.heap.size + 1) (by simp) [.int .i64 0, .int .i64 0, .bool false, .string ⟨#[]⟩] 51).fut, by omega, by omega, by omega, Step.of⟩
                  refine ⟨w6.heap.size, w6.heap.size + 1, rfl, rfl, ?_⟩
                  revert hd
                  go_simp
              · go_simp
                refine hK.out _ _ (by (try dsimp only); (exact ⟨Step.of, (bcell (fut _ _)).1⟩)) (fun hHeld => ?_)
                clear hK K
                (try simp only [Act.put, List.setIfInBounds_toArray, List.set_cons_zero, List.set_cons_succ])
                refine wpAnyH_ready (rs := [6]) (by kernel_rfl) (by simp) ?_
                refine AllReadyH.cons (o := ⟨some 8, _, _, _, _, _⟩) rfl (fun K hK => ?_) AllReadyH.nil
                go_simp
                refine hK.out _ _ (by (try dsimp only); (exact ⟨Step.of, (bcell (fut _ _)).1⟩)) (fun hHeld => ?_)
                clear hK K
                (try simp only [Act.put, List.setIfInBounds_toArray, List.set_cons_zero, List.set_cons_succ])
                refine wpAnyH_ready (rs := [8]) (by kernel_rfl) (by simp) ?_
                refine AllReadyH.cons (o := ⟨none, _, _, _, _, _⟩) rfl (fun K hK => ?_) AllReadyH.nil
                go_simp
                refine hK.out _ _ (by (try dsimp only); (exact ⟨Step.of, (bcell (fut _ _)).1⟩)) (fun hHeld => ?_)
                clear hK K
                (try simp only [Act.put, List.setIfInBounds_toArray, List.set_cons_zero, List.set_cons_succ])
                refine wpAnyH_ready (rs := [9]) (by kernel_rfl) (by simp) ?_
                refine AllReadyH.cons (o := ⟨none, _, _, _, _, _⟩) rfl (fun K hK => ?_) AllReadyH.nil
                go_simp
                refine hK.out _ _ (by (try dsimp only); (exact ⟨Step.of, (bcell (fut _ _)).1⟩)) (fun hHeld => ?_)
                clear hK K
                (try simp only [Act.put, List.setIfInBounds_toArray, List.set_cons_zero, List.set_cons_succ])
                refine wpAnyH_done (by kernel_rfl) ?_ _
                go_wp2_with fail
                go_meet
                case rel =>
                  have hd := Tl0.done (base := V) (mn := mn) (mx := mx) (g8 := w6.heap.size + 1) (g9 := w6.heap.size) (wx := ((w6.alloc (.cells #[.int .i64 0, .int .i64 0, .bool false, .string ⟨#[]⟩] 51)).alloc (.cells #[.int .i64 0, .int .i64 0, .bool false, .string ⟨#[]⟩] 51))) ⟨(Blk.new_at (w := (w6.alloc (.cells #[.int .i64 0, .int .i64 0, .bool false, .string ⟨#[]⟩] 51))) (b := w6.heap.size + 1) (by simp) [.int .i64 0, .int .i64 0, .bool false, .string ⟨#[]⟩] 51).fut, (Blk.new w6 [.int .i64 0, .int .i64 0, .bool false, .string ⟨#[]⟩] 51).fut, by omega, by omega, by omega, Step.of⟩
                  refine ⟨w6.heap.size + 1, w6.heap.size, rfl, rfl, ?_⟩
                  revert hd
                  go_simp
            · go_simp
              refine hK.out _ _ (by (try dsimp only); (exact ⟨Step.of, (bcell (fut _ _)).1⟩)) (fun hHeld => ?_)
              clear hK K
              (try simp only [Act.put, List.setIfInBounds_toArray, List.set_cons_zero, List.set_cons_succ])
              refine wpAnyH_ready (rs := [5, 7]) (by kernel_rfl) (by simp) ?_
              refine AllReadyH.cons (o := ⟨some 47, _, _, _, _, _⟩) rfl (fun K hK => ?_) (AllReadyH.cons (o := ⟨some 9, _, _, _, _, _⟩) rfl (fun K hK => ?_) AllReadyH.nil)
              · obtain ⟨hS1, hS2⟩ := hHeld
                go_simp
                (go_at_call 54; (with_reducible refine (PMX.out _).mono ?_); intro e w6 hr6; obtain ⟨rfl, hs6⟩ := hr6; have z6 := hs6.size; (try simp only [hdz] at z6); (try simp only [hsz] at z6); (try simp only [hdz] at z6); have hx_ := (Blk.new w5 [.int .i64 0, .int .i64 0, .bool false, .string ⟨#[]⟩] 51).fut (w' := w6); obtain ⟨x0, x1, x2, x3⟩ := At.z4 hx_.at0; have fx := hx_.free; have lx := hx_.lt; clear hx_)
                refine hK.out _ _ (by (try dsimp only); (first | exact ⟨hS1, hS2⟩ | exact ⟨Step.of, (bcell (fut _ _)).1⟩)) (fun hHeld => ?_)
                clear hK K
                (try simp only [Act.put, List.setIfInBounds_toArray, List.set_cons_zero, List.set_cons_succ])
                refine wpAnyH_ready (rs := [7]) (by kernel_rfl) (by simp) ?_
                refine AllReadyH.cons (o := ⟨some 9, _, _, _, _, _⟩) rfl (fun K hK => ?_) AllReadyH.nil
                go_simp
                refine hK.out _ _ (by (try dsimp only); (exact ⟨Step.of, (bcell (fut _ _)).1⟩)) (fun hHeld => ?_)
                clear hK K
                (try simp only [Act.put, List.setIfInBounds_toArray, List.set_cons_zero, List.set_cons_succ])
                refine wpAnyH_ready (rs := [8]) (by kernel_rfl) (by simp) ?_
                refine AllReadyH.cons (o := ⟨none, _, _, _, _, _⟩) rfl (fun K hK => ?_) AllReadyH.nil
                go_simp
                refine hK.out _ _ (by (try dsimp only); (exact ⟨Step.of, (bcell (fut _ _)).1⟩)) (fun hHeld => ?_)
                clear hK K
                (try simp only [Act.put, List.setIfInBounds_toArray, List.set_cons_zero, List.set_cons_succ])
                refine wpAnyH_ready (rs := [9]) (by kernel_rfl) (by simp) ?_
                refine AllReadyH.cons (o := ⟨none, _, _, _, _, _⟩) rfl (fun K hK => ?_) AllReadyH.nil
                go_simp
                refine hK.out _ _ (by (try dsimp only); (exact ⟨Step.of, (bcell (fut _ _)).1⟩)) (fun hHeld => ?_)
                clear hK K
                (try simp only [Act.put, List.setIfInBounds_toArray, List.set_cons_zero, List.set_cons_succ])
                refine wpAnyH_done (by kernel_rfl) ?_ _
                go_wp2_with fail
                go_meet
                case rel =>
                  have hd := Tl0.done (base := V) (mn := mn) (mx := mx) (g8 := w5.heap.size) (g9 := w6.heap.size) (wx := (w6.alloc (.cells #[.int .i64 0, .int .i64 0, .bool false, .string ⟨#[]⟩] 51))) ⟨(Blk.new w5 [.int .i64 0, .int .i64 0, .bool false, .string ⟨#[]⟩] 51).fut, (Blk.new w6 [.int .i64 0, .int .i64 0, .bool false, .string ⟨#[]⟩] 51).fut, by omega, by omega, by omega, Step.of⟩
                  refine ⟨w5.heap.size, w6.heap.size, rfl, rfl, ?_⟩
                  revert hd
                  go_simp
              · go_simp
                refine hK.out _ _ (by (try dsimp only); (exact ⟨Step.of, (bcell (fut _ _)).1⟩)) (fun hHeld => ?_)
                clear hK K
                (try simp only [Act.put, List.setIfInBounds_toArray, List.set_cons_zero, List.set_cons_succ])
                refine wpAnyH_ready (rs := [5]) (by kernel_rfl) (by simp) ?_
                refine AllReadyH.cons (o := ⟨some 47, _, _, _, _, _⟩) rfl (fun K hK => ?_) AllReadyH.nil
                obtain ⟨hS1, hS2⟩ := hHeld
                go_simp
                (go_at_call 54; (with_reducible refine (PMX.out _).mono ?_); intro e w6 hr6; obtain ⟨rfl, hs6⟩ := hr6; have z6 := hs6.size; (try simp only [hdz] at z6); (try simp only [hsz] at z6); (try simp only [hdz] at z6); have hx_ := (Blk.new w5 [.int .i64 0, .int .i64 0, .bool false, .string ⟨#[]⟩] 51).fut (w' := w6); obtain ⟨x0, x1, x2, x3⟩ := At.z4 hx_.at0; have fx := hx_.free; have lx := hx_.lt; clear hx_; have hy_ := (Blk.new_at (w := (w5.alloc (.cells #[.int .i64 0, .int .i64 0, .bool false, .string ⟨#[]⟩] 51))) (b := w5.heap.size + 1) (by simp) [.int .i64 0, .int .i64 0, .bool false, .string ⟨#[]⟩] 51).fut (w' := w6); obtain ⟨y0, y1, y2, y3⟩ := At.z4 hy_.at0; have fy := hy_.free; have ly := hy_.lt; clear hy_)
                refine hK.out _ _ (by (try dsimp only); (first | exact ⟨hS1, hS2⟩ | exact ⟨Step.of, (bcell (fut _ _)).1⟩)) (fun hHeld => ?_)
                clear hK K
                (try simp only [Act.put, List.setIfInBounds_toArray, List.set_cons_zero, List.set_cons_succ])
                refine wpAnyH_ready (rs := [8]) (by kernel_rfl) (by simp) ?_
                refine AllReadyH.cons (o := ⟨none, _, _, _, _, _⟩) rfl (fun K hK => ?_) AllReadyH.nil
                go_simp
                refine hK.out _ _ (by (try dsimp only); (exact ⟨Step.of, (bcell (fut _ _)).1⟩)) (fun hHeld => ?_)
                clear hK K
                (try simp only [Act.put, List.setIfInBounds_toArray, List.set_cons_zero, List.set_cons_succ])
                refine wpAnyH_ready (rs := [9]) (by kernel_rfl) (by simp) ?_
                refine AllReadyH.cons (o := ⟨none, _, _, _, _, _⟩) rfl (fun K hK => ?_) AllReadyH.nil
                go_simp
                refine hK.out _ _ (by (try dsimp only); (exact ⟨Step.of, (bcell (fut _ _)).1⟩)) (fun hHeld => ?_)
                clear hK K
                (try simp only [Act.put, List.setIfInBounds_toArray, List.set_cons_zero, List.set_cons_succ])
                refine wpAnyH_done (by kernel_rfl) ?_ _
                go_wp2_with fail
                go_meet
                case rel =>
                  have hd := Tl0.done (base := V) (mn := mn) (mx := mx) (g8 := w5.heap.size) (g9 := w5.heap.size + 1) (wx := w6) ⟨(Blk.new w5 [.int .i64 0, .int .i64 0, .bool false, .string ⟨#[]⟩] 51).fut, (Blk.new_at (w := (w5.alloc (.cells #[.int .i64 0, .int .i64 0, .bool false, .string ⟨#[]⟩] 51))) (b := w5.heap.size + 1) (by simp) [.int .i64 0, .int .i64 0, .bool false, .string ⟨#[]⟩] 51).fut, by omega, by omega, by omega, Step.of⟩
                  refine ⟨w5.heap.size, w5.heap.size + 1, rfl, rfl, ?_⟩
                  revert hd
                  go_simp
            · go_simp
              refine hK.out _ _ (by (try dsimp only); (exact ⟨Step.of, (bcell (fut _ _)).1⟩)) (fun hHeld => ?_)
              clear hK K
              (try simp only [Act.put, List.setIfInBounds_toArray, List.set_cons_zero, List.set_cons_succ])
              refine wpAnyH_ready (rs := [5, 6]) (by kernel_rfl) (by simp) ?_
              refine AllReadyH.cons (o := ⟨some 47, _, _, _, _, _⟩) rfl (fun K hK => ?_) (AllReadyH.cons (o := ⟨some 8, _, _, _, _, _⟩) rfl (fun K hK => ?_) AllReadyH.nil)
              · obtain ⟨hS1, hS2⟩ := hHeld
                go_simp
                (go_at_call 54; (with_reducible refine (PMX.out _).mono ?_); intro e w6 hr6; obtain ⟨rfl, hs6⟩ := hr6; have z6 := hs6.size; (try simp only [hdz] at z6); (try simp only [hsz] at z6); (try simp only [hdz] at z6); have hy_ := (Blk.new w5 [.int .i64 0, .int .i64 0, .bool false, .string ⟨#[]⟩] 51).fut (w' := w6); obtain ⟨y0, y1, y2, y3⟩ := At.z4 hy_.at0; have fy := hy_.free; have ly := hy_.lt; clear hy_)
                refine hK.out _ _ (by (try dsimp only); (first | exact ⟨hS1, hS2⟩ | exact ⟨Step.of, (bcell (fut _ _)).1⟩)) (fun hHeld => ?_)
                clear hK K
                (try simp only [Act.put, List.setIfInBounds_toArray, List.set_cons_zero, List.set_cons_succ])
                refine wpAnyH_ready (rs := [6]) (by kernel_rfl) (by simp) ?_
                refine AllReadyH.cons (o := ⟨some 8, _, _, _, _, _⟩) rfl (fun K hK => ?_) AllReadyH.nil
                go_simp
                refine hK.out _ _ (by (try dsimp only); (exact ⟨Step.of, (bcell (fut _ _)).1⟩)) (fun hHeld => ?_)
                clear hK K
                (try simp only [Act.put, List.setIfInBounds_toArray, List.set_cons_zero, List.set_cons_succ])
                refine wpAnyH_ready (rs := [8]) (by kernel_rfl) (by simp) ?_
                refine AllReadyH.cons (o := ⟨none, _, _, _, _, _⟩) rfl (fun K hK => ?_) AllReadyH.nil
                go_simp
                refine hK.out _ _ (by (try dsimp only); (exact ⟨Step.of, (bcell (fut _ _)).1⟩)) (fun hHeld => ?_)
                clear hK K
                (try simp only [Act.put, List.setIfInBounds_toArray, List.set_cons_zero, List.set_cons_succ])
                refine wpAnyH_ready (rs := [9]) (by kernel_rfl) (by simp) ?_
                refine AllReadyH.cons (o := ⟨none, _, _, _, _, _⟩) rfl (fun K hK => ?_) AllReadyH.nil
                go_simp
                refine hK.out _ _ (by (try dsimp only); (exact ⟨Step.of, (bcell (fut _ _)).1⟩)) (fun hHeld => ?_)
                clear hK K
                (try simp only [Act.put, List.setIfInBounds_toArray, List.set_cons_zero, List.set_cons_succ])
                refine wpAnyH_done (by kernel_rfl) ?_ _
                go_wp2_with fail
                go_meet
                case rel =>
                  have hd := Tl0.done (base := V) (mn := mn) (mx := mx) (g8 := w6.heap.size) (g9 := w5.heap.size) (wx := (w6.alloc (.cells #[.int .i64 0, .int .i64 0, .bool false, .string ⟨#[]⟩] 51))) ⟨(Blk.new w6 [.int .i64 0, .int .i64 0, .bool false, .string ⟨#[]⟩] 51).fut, (Blk.new w5 [.int .i64 0, .int .i64 0, .bool false, .string ⟨#[]⟩] 51).fut, by omega, by omega, by omega, Step.of⟩
                  refine ⟨w6.heap.size, w5.heap.size, rfl, rfl, ?_⟩
                  revert hd
                  go_simp
              · go_simp
                refine hK.out _ _ (by (try dsimp only); (exact ⟨Step.of, (bcell (fut _ _)).1⟩)) (fun hHeld => ?_)
                clear hK K
                (try simp only [Act.put, List.setIfInBounds_toArray, List.set_cons_zero, List.set_cons_succ])
                refine wpAnyH_ready (rs := [5]) (by kernel_rfl) (by simp) ?_
                refine AllReadyH.cons (o := ⟨some 47, _, _, _, _, _⟩) rfl (fun K hK => ?_) AllReadyH.nil
                obtain ⟨hS1, hS2⟩ := hHeld
                go_simp
                (go_at_call 54; (with_reducible refine (PMX.out _).mono ?_); intro e w6 hr6; obtain ⟨rfl, hs6⟩ := hr6; have z6 := hs6.size; (try simp only [hdz] at z6); (try simp only [hsz] at z6); (try simp only [hdz] at z6); have hx_ := (Blk.new_at (w := (w5.alloc (.cells #[.int .i64 0, .int .i64 0, .bool false, .string ⟨#[]⟩] 51))) (b := w5.heap.size + 1) (by simp) [.int .i64 0, .int .i64 0, .bool false, .string ⟨#[]⟩] 51).fut (w' := w6); obtain ⟨x0, x1, x2, x3⟩ := At.z4 hx_.at0; have fx := hx_.free; have lx := hx_.lt; clear hx_; have hy_ := (Blk.new w5 [.int .i64 0, .int .i64 0, .bool false, .string ⟨#[]⟩] 51).fut (w' := w6); obtain ⟨y0, y1, y2, y3⟩ := At.z4 hy_.at0; have fy := hy_.free; have ly := hy_.lt; clear hy_)
                refine hK.out _ _ (by (try dsimp only); (first | exact ⟨hS1, hS2⟩ | exact ⟨Step.of, (bcell (fut _ _)).1⟩)) (fun hHeld => ?_)
                clear hK K
                (try simp only [Act.put, List.setIfInBounds_toArray, List.set_cons_zero, List.set_cons_succ])
                refine wpAnyH_ready (rs := [8]) (by kernel_rfl) (by simp) ?_
                refine AllReadyH.cons (o := ⟨none, _, _, _, _, _⟩) rfl (fun K hK => ?_) AllReadyH.nil
                go_simp
                refine hK.out _ _ (by (try dsimp only); (exact ⟨Step.of, (bcell (fut _ _)).1⟩)) (fun hHeld => ?_)
                clear hK K
                (try simp only [Act.put, List.setIfInBounds_toArray, List.set_cons_zero, List.set_cons_succ])
                refine wpAnyH_ready (rs := [9]) (by kernel_rfl) (by simp) ?_
                refine AllReadyH.cons (o := ⟨none, _, _, _, _, _⟩) rfl (fun K hK => ?_) AllReadyH.nil
                go_simp
                refine hK.out _ _ (by (try dsimp only); (exact ⟨Step.of, (bcell (fut _ _)).1⟩)) (fun hHeld => ?_)
                clear hK K
                (try simp only [Act.put, List.setIfInBounds_toArray, List.set_cons_zero, List.set_cons_succ])
                refine wpAnyH_done (by kernel_rfl) ?_ _
                go_wp2_with fail
                go_meet
                case rel =>
                  have hd := Tl0.done (base := V) (mn := mn) (mx := mx) (g8 := w5.heap.size + 1) (g9 := w5.heap.size) (wx := w6) ⟨(Blk.new_at (w := (w5.alloc (.cells #[.int .i64 0, .int .i64 0, .bool false, .string ⟨#[]⟩] 51))) (b := w5.heap.size + 1) (by simp) [.int .i64 0, .int .i64 0, .bool false, .string ⟨#[]⟩] 51).fut, (Blk.new w5 [.int .i64 0, .int .i64 0, .bool false, .string ⟨#[]⟩] 51).fut, by omega, by omega, by omega, Step.of⟩
                  refine ⟨w5.heap.size + 1, w5.heap.size, rfl, rfl, ?_⟩
                  revert hd
                  go_simp
          · go_simp
            refine hK.out _ _ (by (try dsimp only); (exact ⟨Step.of, (bcell (fut _ _)).1⟩)) (fun hHeld => ?_)
            clear hK K
            (try simp only [Act.put, List.setIfInBounds_toArray, List.set_cons_zero, List.set_cons_succ])
            refine wpAnyH_ready (rs := [2, 7]) (by kernel_rfl) (by simp) ?_
            refine AllReadyH.cons (o := ⟨some 44, _, _, _, _, _⟩) rfl (fun K hK => ?_) (AllReadyH.cons (o := ⟨some 9, _, _, _, _, _⟩) rfl (fun K hK => ?_) AllReadyH.nil)
            · obtain ⟨hS1, hS2⟩ := hHeld
              go_simp
              (go_at_call 54; (with_reducible refine (PMN.out _).mono ?_); intro e w5 hr5; obtain ⟨rfl, hs5⟩ := hr5; have z5 := hs5.size; (try simp only [hdz] at z5); (try simp only [hsz] at z5); (try simp only [hdz] at z5); have hx_ := (Blk.new V [.int .i64 0, .int .i64 0, .bool false, .string ⟨#[]⟩] 51).fut (w' := w5); obtain ⟨x0, x1, x2, x3⟩ := At.z4 hx_.at0; have fx := hx_.free; have lx := hx_.lt; clear hx_)
              refine hK.out _ _ (by (try dsimp only); (first | exact ⟨hS1, hS2⟩ | exact ⟨Step.of, (bcell (fut _ _)).1⟩)) (fun hHeld => ?_)
              clear hK K
              (try simp only [Act.put, List.setIfInBounds_toArray, List.set_cons_zero, List.set_cons_succ])
              refine wpAnyH_ready (rs := [5, 7]) (by kernel_rfl) (by simp) ?_
              refine AllReadyH.cons (o := ⟨some 47, _, _, _, _, _⟩) rfl (fun K hK => ?_) (AllReadyH.cons (o := ⟨some 9, _, _, _, _, _⟩) rfl (fun K hK => ?_) AllReadyH.nil)
              · obtain ⟨hS1, hS2⟩ := hHeld
                go_simp
                (go_at_call 54; (with_reducible refine (PMX.out _).mono ?_); intro e w6 hr6; obtain ⟨rfl, hs6⟩ := hr6; have z6 := hs6.size; (try simp only [hdz] at z6); (try simp only [hsz] at z6); (try simp only [hdz] at z6); clear x0 x1 x2 x3 fx lx; have hx_ := (Blk.new V [.int .i64 0, .int .i64 0, .bool false, .string ⟨#[]⟩] 51).fut (w' := w6); obtain ⟨x0, x1, x2, x3⟩ := At.z4 hx_.at0; have fx := hx_.free; have lx := hx_.lt; clear hx_)
                refine hK.out _ _ (by (try dsimp only); (first | exact ⟨hS1, hS2⟩ | exact ⟨Step.of, (bcell (fut _ _)).1⟩)) (fun hHeld => ?_)
                clear hK K
                (try simp only [Act.put, List.setIfInBounds_toArray, List.set_cons_zero, List.set_cons_succ])
                refine wpAnyH_ready (rs := [7]) (by kernel_rfl) (by simp) ?_
                refine AllReadyH.cons (o := ⟨some 9, _, _, _, _, _⟩) rfl (fun K hK => ?_) AllReadyH.nil
                go_simp
                refine hK.out _ _ (by (try dsimp only); (exact ⟨Step.of, (bcell (fut _ _)).1⟩)) (fun hHeld => ?_)
                clear hK K
                (try simp only [Act.put, List.setIfInBounds_toArray, List.set_cons_zero, List.set_cons_succ])
                refine wpAnyH_ready (rs := [8]) (by kernel_rfl) (by simp) ?_
                refine AllReadyH.cons (o := ⟨none, _, _, _, _, _⟩) rfl (fun K hK => ?_) AllReadyH.nil
                go_simp
                refine hK.out _ _ (by (try dsimp only); (exact ⟨Step.of, (bcell (fut _ _)).1⟩)) (fun hHeld => ?_)
                clear hK K
                (try simp only [Act.put, List.setIfInBounds_toArray, List.set_cons_zero, List.set_cons_succ])
                refine wpAnyH_ready (rs := [9]) (by kernel_rfl) (by simp) ?_
                refine AllReadyH.cons (o := ⟨none, _, _, _, _, _⟩) rfl (fun K hK => ?_) AllReadyH.nil
                go_simp
                refine hK.out _ _ (by (try dsimp only); (exact ⟨Step.of, (bcell (fut _ _)).1⟩)) (fun hHeld => ?_)
                clear hK K
                (try simp only [Act.put, List.setIfInBounds_toArray, List.set_cons_zero, List.set_cons_succ])
                refine wpAnyH_done (by kernel_rfl) ?_ _
                go_wp2_with fail
                go_meet
                case rel =>
                  have hd := Tl0.done (base := V) (mn := mn) (mx := mx) (g8 := V.heap.size) (g9 := w6.heap.size) (wx := (w6.alloc (.cells #[.int .i64 0, .int .i64 0, .bool false, .string ⟨#[]⟩] 51))) ⟨(Blk.new V [.int .i64 0, .int .i64 0, .bool false, .string ⟨#[]⟩] 51).fut, (Blk.new w6 [.int .i64 0, .int .i64 0, .bool false, .string ⟨#[]⟩] 51).fut, by omega, by omega, by omega, Step.of⟩
                  refine ⟨V.heap.size, w6.heap.size, rfl, rfl, ?_⟩
                  revert hd
                  go_simp
              · go_simp
                refine hK.out _ _ (by (try dsimp only); (exact ⟨Step.of, (bcell (fut _ _)).1⟩)) (fun hHeld => ?_)
                clear hK K
                (try simp only [Act.put, List.setIfInBounds_toArray, List.set_cons_zero, List.set_cons_succ])
                refine wpAnyH_ready (rs := [5]) (by kernel_rfl) (by simp) ?_
                refine AllReadyH.cons (o := ⟨some 47, _, _, _, _, _⟩) rfl (fun K hK => ?_) AllReadyH.nil
                obtain ⟨hS1, hS2⟩ := hHeld
                go_simp
                (go_at_call 54; (with_reducible refine (PMX.out _).mono ?_); intro e w6 hr6; obtain ⟨rfl, hs6⟩ := hr6; have z6 := hs6.size; (try simp only [hdz] at z6); (try simp only [hsz] at z6); (try simp only [hdz] at z6); clear x0 x1 x2 x3 fx lx; have hx_ := (Blk.new V [.int .i64 0, .int .i64 0, .bool false, .string ⟨#[]⟩] 51).fut (w' := w6); obtain ⟨x0, x1, x2, x3⟩ := At.z4 hx_.at0; have fx := hx_.free; have lx := hx_.lt; clear hx_; have hy_ := (Blk.new w5 [.int .i64 0, .int .i64 0, .bool false, .string ⟨#[]⟩] 51).fut (w' := w6); obtain ⟨y0, y1, y2, y3⟩ := At.z4 hy_.at0; have fy := hy_.free; have ly := hy_.lt; clear hy_)
                refine hK.out _ _ (by (try dsimp only); (first | exact ⟨hS1, hS2⟩ | exact ⟨Step.of, (bcell (fut _ _)).1⟩)) (fun hHeld => ?_)
                clear hK K
                (try simp only [Act.put, List.setIfInBounds_toArray, List.set_cons_zero, List.set_cons_succ])
                refine wpAnyH_ready (rs := [8]) (by kernel_rfl) (by simp) ?_
                refine AllReadyH.cons (o := ⟨none, _, _, _, _, _⟩) rfl (fun K hK => ?_) AllReadyH.nil
                go_simp
                refine hK.out _ _ (by (try dsimp only); (exact ⟨Step.of, (bcell (fut _ _)).1⟩)) (fun hHeld => ?_)
                clear hK K
                (try simp only [Act.put, List.setIfInBounds_toArray, List.set_cons_zero, List.set_cons_succ])
                refine wpAnyH_ready (rs := [9]) (by kernel_rfl) (by simp) ?_
                refine AllReadyH.cons (o := ⟨none, _, _, _, _, _⟩) rfl (fun K hK => ?_) AllReadyH.nil
                go_simp
                refine hK.out _ _ (by (try dsimp only); (exact ⟨Step.of, (bcell (fut _ _)).1⟩)) (fun hHeld => ?_)
                clear hK K
                (try simp only [Act.put, List.setIfInBounds_toArray, List.set_cons_zero, List.set_cons_succ])
                refine wpAnyH_done (by kernel_rfl) ?_ _
                go_wp2_with fail
                go_meet
                case rel =>
                  have hd := Tl0.done (base := V) (mn := mn) (mx := mx) (g8 := V.heap.size) (g9 := w5.heap.size) (wx := w6) ⟨(Blk.new V [.int .i64 0, .int .i64 0, .bool false, .string ⟨#[]⟩] 51).fut, (Blk.new w5 [.int .i64 0, .int .i64 0, .bool false, .string ⟨#[]⟩] 51).fut, by omega, by omega, by omega, Step.of⟩
                  refine ⟨V.heap.size, w5.heap.size, rfl, rfl, ?_⟩
                  revert hd
                  go_simp
            · go_simp
              refine hK.out _ _ (by (try dsimp only); (exact ⟨Step.of, (bcell (fut _ _)).1⟩)) (fun hHeld => ?_)
              clear hK K
              (try simp only [Act.put, List.setIfInBounds_toArray, List.set_cons_zero, List.set_cons_succ])
              refine wpAnyH_ready (rs := [2]) (by kernel_rfl) (by simp) ?_
              refine AllReadyH.cons (o := ⟨some 44, _, _, _, _, _⟩) rfl (fun K hK => ?_) AllReadyH.nil
              obtain ⟨hS1, hS2⟩ := hHeld
              go_simp
              (go_at_call 54; (with_reducible refine (PMN.out _).mono ?_); intro e w5 hr5; obtain ⟨rfl, hs5⟩ := hr5; have z5 := hs5.size; (try simp only [hdz] at z5); (try simp only [hsz] at z5); (try simp only [hdz] at z5); have hx_ := (Blk.new V [.int .i64 0, .int .i64 0, .bool false, .string ⟨#[]⟩] 51).fut (w' := w5); obtain ⟨x0, x1, x2, x3⟩ := At.z4 hx_.at0; have fx := hx_.free; have lx := hx_.lt; clear hx_; have hy_ := (Blk.new_at (w := (V.alloc (.cells #[.int .i64 0, .int .i64 0, .bool false, .string ⟨#[]⟩] 51))) (b := V.heap.size + 1) (by simp) [.int .i64 0, .int .i64 0, .bool false, .string ⟨#[]⟩] 51).fut (w' := w5); obtain ⟨y0, y1, y2, y3⟩ := At.z4 hy_.at0; have fy := hy_.free; have ly := hy_.lt; clear hy_)
              refine hK.out _ _ (by (try dsimp only); (first | exact ⟨hS1, hS2⟩ | exact ⟨Step.of, (bcell (fut _ _)).1⟩)) (fun hHeld => ?_)
              clear hK K
              (try simp only [Act.put, List.setIfInBounds_toArray, List.set_cons_zero, List.set_cons_succ])
              refine wpAnyH_ready (rs := [5]) (by kernel_rfl) (by simp) ?_
              refine AllReadyH.cons (o := ⟨some 47, _, _, _, _, _⟩) rfl (fun K hK => ?_) AllReadyH.nil
              obtain ⟨hS1, hS2⟩ := hHeld
              go_simp
              (go_at_call 54; (with_reducible refine (PMX.out _).mono ?_); intro e w6 hr6; obtain ⟨rfl, hs6⟩ := hr6; have z6 := hs6.size; (try simp only [hdz] at z6); (try simp only [hsz] at z6); (try simp only [hdz] at z6); clear x0 x1 x2 x3 fx lx y0 y1 y2 y3 fy ly; have hx_ := (Blk.new V [.int .i64 0, .int .i64 0, .bool false, .string ⟨#[]⟩] 51).fut (w' := w6); obtain ⟨x0, x1, x2, x3⟩ := At.z4 hx_.at0; have fx := hx_.free; have lx := hx_.lt; clear hx_; have hy_ := (Blk.new_at (w := (V.alloc (.cells #[.int .i64 0, .int .i64 0, .bool false, .string ⟨#[]⟩] 51))) (b := V.heap.size + 1) (by simp) [.int .i64 0, .int .i64 0, .bool false, .string ⟨#[]⟩] 51).fut (w' := w6); obtain ⟨y0, y1, y2, y3⟩ := At.z4 hy_.at0; have fy := hy_.free; have ly := hy_.lt; clear hy_)
              refine hK.out _ _ (by (try dsimp only); (first | exact ⟨hS1, hS2⟩ | exact ⟨Step.of, (bcell (fut _ _)).1⟩)) (fun hHeld => ?_)
              clear hK K
              (try simp only [Act.put, List.setIfInBounds_toArray, List.set_cons_zero, List.set_cons_succ])
              refine wpAnyH_ready (rs := [8]) (by kernel_rfl) (by simp) ?_
              refine AllReadyH.cons (o := ⟨none, _, _, _, _, _⟩) rfl (fun K hK => ?_) AllReadyH.nil
              go_simp
              refine hK.out _ _ (by (try dsimp only); (exact ⟨Step.of, (bcell (fut _ _)).1⟩)) (fun hHeld => ?_)
              clear hK K
              (try simp only [Act.put, List.setIfInBounds_toArray, List.set_cons_zero, List.set_cons_succ])
              refine wpAnyH_ready (rs := [9]) (by kernel_rfl) (by simp) ?_
              refine AllReadyH.cons (o := ⟨none, _, _, _, _, _⟩) rfl (fun K hK => ?_) AllReadyH.nil
              go_simp
              refine hK.out _ _ (by (try dsimp only); (exact ⟨Step.of, (bcell (fut _ _)).1⟩)) (fun hHeld => ?_)
              clear hK K
              (try simp only [Act.put, List.setIfInBounds_toArray, List.set_cons_zero, List.set_cons_succ])
              refine wpAnyH_done (by kernel_rfl) ?_ _
              go_wp2_with fail
              go_meet
              case rel =>
                have hd := Tl0.done (base := V) (mn := mn) (mx := mx) (g8 := V.heap.size) (g9 := V.heap.size + 1) (wx := w6) ⟨(Blk.new V [.int .i64 0, .int .i64 0, .bool false, .string ⟨#[]⟩] 51).fut, (Blk.new_at (w := (V.alloc (.cells #[.int .i64 0, .int .i64 0, .bool false, .string ⟨#[]⟩] 51))) (b := V.heap.size + 1) (by simp) [.int .i64 0, .int .i64 0, .bool false, .string ⟨#[]⟩] 51).fut, by omega, by omega, by omega, Step.of⟩
                refine ⟨V.heap.size, V.heap.size + 1, rfl, rfl, ?_⟩
                revert hd
                go_simp
          · go_simp
            refine hK.out _ _ (by (try dsimp only); (exact ⟨Step.of, (bcell (fut _ _)).1⟩)) (fun hHeld => ?_)
            clear hK K
            (try simp only [Act.put, List.setIfInBounds_toArray, List.set_cons_zero, List.set_cons_succ])
            refine wpAnyH_ready (rs := [2, 6]) (by kernel_rfl) (by simp) ?_
            refine AllReadyH.cons (o := ⟨some 44, _, _, _, _, _⟩) rfl (fun K hK => ?_) (AllReadyH.cons (o := ⟨some 8, _, _, _, _, _⟩) rfl (fun K hK => ?_) AllReadyH.nil)
            · obtain ⟨hS1, hS2⟩ := hHeld
              go_simp
              (go_at_call 54; (with_reducible refine (PMN.out _).mono ?_); intro e w5 hr5; obtain ⟨rfl, hs5⟩ := hr5; have z5 := hs5.size; (try simp only [hdz] at z5); (try simp only [hsz] at z5); (try simp only [hdz] at z5); have hy_ := (Blk.new V [.int .i64 0, .int .i64 0, .bool false, .string ⟨#[]⟩] 51).fut (w' := w5); obtain ⟨y0, y1, y2, y3⟩ := At.z4 hy_.at0; have fy := hy_.free; have ly := hy_.lt; clear hy_)
              refine hK.out _ _ (by (try dsimp only); (first | exact ⟨hS1, hS2⟩ | exact ⟨Step.of, (bcell (fut _ _)).1⟩)) (fun hHeld => ?_)
              clear hK K
              (try simp only [Act.put, List.setIfInBounds_toArray, List.set_cons_zero, List.set_cons_succ])
              refine wpAnyH_ready (rs := [5, 6]) (by kernel_rfl) (by simp) ?_
              refine AllReadyH.cons (o := ⟨some 47, _, _, _, _, _⟩) rfl (fun K hK => ?_) (AllReadyH.cons (o := ⟨some 8, _, _, _, _, _⟩) rfl (fun K hK => ?_) AllReadyH.nil)
              · obtain ⟨hS1, hS2⟩ := hHeld
                go_simp
                (go_at_call 54; (with_reducible refine (PMX.out _).mono ?_); intro e w6 hr6; obtain ⟨rfl, hs6⟩ := hr6; have z6 := hs6.size; (try simp only [hdz] at z6); (try simp only [hsz] at z6); (try simp only [hdz] at z6); clear y0 y1 y2 y3 fy ly; have hy_ := (Blk.new V [.int .i64 0, .int .i64 0, .bool false, .string ⟨#[]⟩] 51).fut (w' := w6); obtain ⟨y0, y1, y2, y3⟩ := At.z4 hy_.at0; have fy := hy_.free; have ly := hy_.lt; clear hy_)
                refine hK.out _ _ (by (try dsimp only); (first | exact ⟨hS1, hS2⟩ | exact ⟨Step.of, (bcell (fut _ _)).1⟩)) (fun hHeld => ?_)
                clear hK K
                (try simp only [Act.put, List.setIfInBounds_toArray, List.set_cons_zero, List.set_cons_succ])
                refine wpAnyH_ready (rs := [6]) (by kernel_rfl) (by simp) ?_
                refine AllReadyH.cons (o := ⟨some 8, _, _, _, _, _⟩) rfl (fun K hK => ?_) AllReadyH.nil
                go_simp
                refine hK.out _ _ (by (try dsimp only); (exact ⟨Step.of, (bcell (fut _ _)).1⟩)) (fun hHeld => ?_)
                clear hK K
                (try simp only [Act.put, List.setIfInBounds_toArray, List.set_cons_zero, List.set_cons_succ])
                refine wpAnyH_ready (rs := [8]) (by kernel_rfl) (by simp) ?_
                refine AllReadyH.cons (o := ⟨none, _, _, _, _, _⟩) rfl (fun K hK => ?_) AllReadyH.nil
                go_simp
                refine hK.out _ _ (by (try dsimp only); (exact ⟨Step.of, (bcell (fut _ _)).1⟩)) (fun hHeld => ?_)
                clear hK K
                (try simp only [Act.put, List.setIfInBounds_toArray, List.set_cons_zero, List.set_cons_succ])
                refine wpAnyH_ready (rs := [9]) (by kernel_rfl) (by simp) ?_
                refine AllReadyH.cons (o := ⟨none, _, _, _, _, _⟩) rfl (fun K hK => ?_) AllReadyH.nil
                go_simp
                refine hK.out _ _ (by (try dsimp only); (exact ⟨Step.of, (bcell (fut _ _)).1⟩)) (fun hHeld => ?_)
                clear hK K
                (try simp only [Act.put, List.setIfInBounds_toArray, List.set_cons_zero, List.set_cons_succ])
                refine wpAnyH_done (by kernel_rfl) ?_ _
                go_wp2_with fail
                go_meet
                case rel =>
                  have hd := Tl0.done (base := V) (mn := mn) (mx := mx) (g8 := w6.heap.size) (g9 := V.heap.size) (wx := (w6.alloc (.cells #[.int .i64 0, .int .i64 0, .bool false, .string ⟨#[]⟩] 51))) ⟨(Blk.new w6 [.int .i64 0, .int .i64 0, .bool false, .string ⟨#[]⟩] 51).fut, (Blk.new V [.int .i64 0, .int .i64 0, .bool false, .string ⟨#[]⟩] 51).fut, by omega, by omega, by omega, Step.of⟩
                  refine ⟨w6.heap.size, V.heap.size, rfl, rfl, ?_⟩
                  revert hd
                  go_simp
              · go_simp
                refine hK.out _ _ (by (try dsimp only); (exact ⟨Step.of, (bcell (fut _ _)).1⟩)) (fun hHeld => ?_)
                clear hK K
                (try simp only [Act.put, List.setIfInBounds_toArray, List.set_cons_zero, List.set_cons_succ])
                refine wpAnyH_ready (rs := [5]) (by kernel_rfl) (by simp) ?_
                refine AllReadyH.cons (o := ⟨some 47, _, _, _, _, _⟩) rfl (fun K hK => ?_) AllReadyH.nil
                obtain ⟨hS1, hS2⟩ := hHeld
                go_simp
                (go_at_call 54; (with_reducible refine (PMX.out _).mono ?_); intro e w6 hr6; obtain ⟨rfl, hs6⟩ := hr6; have z6 := hs6.size; (try simp only [hdz] at z6); (try simp only [hsz] at z6); (try simp only [hdz] at z6); clear y0 y1 y2 y3 fy ly; have hx_ := (Blk.new w5 [.int .i64 0, .int .i64 0, .bool false, .string ⟨#[]⟩] 51).fut (w' := w6); obtain ⟨x0, x1, x2, x3⟩ := At.z4 hx_.at0; have fx := hx_.free; have lx := hx_.lt; clear hx_; have hy_ := (Blk.new V [.int .i64 0, .int .i64 0, .bool false, .string ⟨#[]⟩] 51).fut (w' := w6); obtain ⟨y0, y1, y2, y3⟩ := At.z4 hy_.at0; have fy := hy_.free; have ly := hy_.lt; clear hy_)
                refine hK.out _ _ (by (try dsimp only); (first | exact ⟨hS1, hS2⟩ | exact ⟨Step.of, (bcell (fut _ _)).1⟩)) (fun hHeld => ?_)
                clear hK K
                (try simp only [Act.put, List.setIfInBounds_toArray, List.set_cons_zero, List.set_cons_succ])
                refine wpAnyH_ready (rs := [8]) (by kernel_rfl) (by simp) ?_
                refine AllReadyH.cons (o := ⟨none, _, _, _, _, _⟩) rfl (fun K hK => ?_) AllReadyH.nil
                go_simp
                refine hK.out _ _ (by (try dsimp only); (exact ⟨Step.of, (bcell (fut _ _)).1⟩)) (fun hHeld => ?_)
                clear hK K
                (try simp only [Act.put, List.setIfInBounds_toArray, List.set_cons_zero, List.set_cons_succ])
                refine wpAnyH_ready (rs := [9]) (by kernel_rfl) (by simp) ?_
                refine AllReadyH.cons (o := ⟨none, _, _, _, _, _⟩) rfl (fun K hK => ?_) AllReadyH.nil
                go_simp
                refine hK.out _ _ (by (try dsimp only); (exact ⟨Step.of, (bcell (fut _ _)).1⟩)) (fun hHeld => ?_)
                clear hK K
                (try simp only [Act.put, List.setIfInBounds_toArray, List.set_cons_zero, List.set_cons_succ])
                refine wpAnyH_done (by kernel_rfl) ?_ _
                go_wp2_with fail
                go_meet
                case rel =>
                  have hd := Tl0.done (base := V) (mn := mn) (mx := mx) (g8 := w5.heap.size) (g9 := V.heap.size) (wx := w6) ⟨(Blk.new w5 [.int .i64 0, .int .i64 0, .bool false, .string ⟨#[]⟩] 51).fut, (Blk.new V [.int .i64 0, .int .i64 0, .bool false, .string ⟨#[]⟩] 51).fut, by omega, by omega, by omega, Step.of⟩
                  refine ⟨w5.heap.size, V.heap.size, rfl, rfl, ?_⟩
                  revert hd
                  go_simp
            · go_simp
              refine hK.out _ _ (by (try dsimp only); (exact ⟨Step.of, (bcell (fut _ _)).1⟩)) (fun hHeld => ?_)
              clear hK K
              (try simp only [Act.put, List.setIfInBounds_toArray, List.set_cons_zero, List.set_cons_succ])
              refine wpAnyH_ready (rs := [2]) (by kernel_rfl) (by simp) ?_
              refine AllReadyH.cons (o := ⟨some 44, _, _, _, _, _⟩) rfl (fun K hK => ?_) AllReadyH.nil
              obtain ⟨hS1, hS2⟩ := hHeld
              go_simp
              (go_at_call 54; (with_reducible refine (PMN.out _).mono ?_); intro e w5 hr5; obtain ⟨rfl, hs5⟩ := hr5; have z5 := hs5.size; (try simp only [hdz] at z5); (try simp only [hsz] at z5); (try simp only [hdz] at z5); have hx_ := (Blk.new_at (w := (V.alloc (.cells #[.int .i64 0, .int .i64 0, .bool false, .string ⟨#[]⟩] 51))) (b := V.heap.size + 1) (by simp) [.int .i64 0, .int .i64 0, .bool false, .string ⟨#[]⟩] 51).fut (w' := w5); obtain ⟨x0, x1, x2, x3⟩ := At.z4 hx_.at0; have fx := hx_.free; have lx := hx_.lt; clear hx_; have hy_ := (Blk.new V [.int .i64 0, .int .i64 0, .bool false, .string ⟨#[]⟩] 51).fut (w' := w5); obtain ⟨y0, y1, y2, y3⟩ := At.z4 hy_.at0; have fy := hy_.free; have ly := hy_.lt; clear hy_)
              refine hK.out _ _ (by (try dsimp only); (first | exact ⟨hS1, hS2⟩ | exact ⟨Step.of, (bcell (fut _ _)).1⟩)) (fun hHeld => ?_)
              clear hK K
              (try simp only [Act.put, List.setIfInBounds_toArray, List.set_cons_zero, List.set_cons_succ])
              refine wpAnyH_ready (rs := [5]) (by kernel_rfl) (by simp) ?_
              refine AllReadyH.cons (o := ⟨some 47, _, _, _, _, _⟩) rfl (fun K hK => ?_) AllReadyH.nil
              obtain ⟨hS1, hS2⟩ := hHeld
              go_simp
              (go_at_call 54; (with_reducible refine (PMX.out _).mono ?_); intro e w6 hr6; obtain ⟨rfl, hs6⟩ := hr6; have z6 := hs6.size; (try simp only [hdz] at z6); (try simp only [hsz] at z6); (try simp only [hdz] at z6); clear x0 x1 x2 x3 fx lx y0 y1 y2 y3 fy ly; have hx_ := (Blk.new_at (w := (V.alloc (.cells #[.int .i64 0, .int .i64 0, .bool false, .string ⟨#[]⟩] 51))) (b := V.heap.size + 1) (by simp) [.int .i64 0, .int .i64 0, .bool false, .string ⟨#[]⟩] 51).fut (w' := w6); obtain ⟨x0, x1, x2, x3⟩ := At.z4 hx_.at0; have fx := hx_.free; have lx := hx_.lt; clear hx_; have hy_ := (Blk.new V [.int .i64 0, .int .i64 0, .bool false, .string ⟨#[]⟩] 51).fut (w' := w6); obtain ⟨y0, y1, y2, y3⟩ := At.z4 hy_.at0; have fy := hy_.free; have ly := hy_.lt; clear hy_)
              refine hK.out _ _ (by (try dsimp only); (first | exact ⟨hS1, hS2⟩ | exact ⟨Step.of, (bcell (fut _ _)).1⟩)) (fun hHeld => ?_)
              clear hK K
              (try simp only [Act.put, List.setIfInBounds_toArray, List.set_cons_zero, List.set_cons_succ])
              refine wpAnyH_ready (rs := [8]) (by kernel_rfl) (by simp) ?_
              refine AllReadyH.cons (o := ⟨none, _, _, _, _, _⟩) rfl (fun K hK => ?_) AllReadyH.nil
              go_simp
              refine hK.out _ _ (by (try dsimp only); (exact ⟨Step.of, (bcell (fut _ _)).1⟩)) (fun hHeld => ?_)
              clear hK K
              (try simp only [Act.put, List.setIfInBounds_toArray, List.set_cons_zero, List.set_cons_succ])
              refine wpAnyH_ready (rs := [9]) (by kernel_rfl) (by simp) ?_
              refine AllReadyH.cons (o := ⟨none, _, _, _, _, _⟩) rfl (fun K hK => ?_) AllReadyH.nil
              go_simp
              refine hK.out _ _ (by (try dsimp only); (exact ⟨Step.of, (bcell (fut _ _)).1⟩)) (fun hHeld => ?_)
              clear hK K
              (try simp only [Act.put, List.setIfInBounds_toArray, List.set_cons_zero, List.set_cons_succ])
              refine wpAnyH_done (by kernel_rfl) ?_ _
              go_wp2_with fail
              go_meet
              case rel =>
                have hd := Tl0.done (base := V) (mn := mn) (mx := mx) (g8 := V.heap.size + 1) (g9 := V.heap.size) (wx := w6) ⟨(Blk.new_at (w := (V.alloc (.cells #[.int .i64 0, .int .i64 0, .bool false, .string ⟨#[]⟩] 51))) (b := V.heap.size + 1) (by simp) [.int .i64 0, .int .i64 0, .bool false, .string ⟨#[]⟩] 51).fut, (Blk.new V [.int .i64 0, .int .i64 0, .bool false, .string ⟨#[]⟩] 51).fut, by omega, by omega, by omega, Step.of⟩
                refine ⟨V.heap.size + 1, V.heap.size, rfl, rfl, ?_⟩
                revert hd
                go_simp
        case rest =>
          clear t0 t1 t2 t3 t4 t5 t6 t7 t8 t9 lt_
          obtain ⟨g8, g9, rfl, rfl, htl⟩ := hcut
          have hsX := htl.st
          have hsX' : Step W wc := Step.of
          obtain ⟨X, rfl⟩ : ∃ x : World, x = wc := ⟨_, rfl⟩
          have zX := hsX.size
          have XB := hide htl.xb
          have YB := hide htl.yb
          clear htl
          have PS1 : Hid (∀ w', Calls Tryz.prog 55 #[.int .i64 n.cmp, .agg #[.int .i64 (kindV mn), .int .i64 (clean mn).i, .bool (clean mn).b, .string (clean mn).s], .agg #[.int .i64 (kindV mx), .int .i64 (clean mx).i, .bool (clean mx).b, .string (clean mx).s], .agg #[.int .i64 n.v.kind, .int .i64 n.v.i, .bool n.v.b, .string n.v.s]] w' fun e w'' => e = .returned (.bool (someB n.cmp (clean mn) (clean mx) n.v)) ∧ Step w' w'') := by
            show ∀ w', _
            intro w'
            have := psome_any n.cmp (clean mn) (clean mx) n.v w' hc'.1 hc'.2
            unfold Val.val at this
            rw [clean_kind, clean_kind] at this
            exact this
          have PS2 : Hid (∀ w', Calls Tryz.prog 55 #[.int .i64 (oppC n.cmp), .agg #[.int .i64 (kindV mn), .int .i64 (clean mn).i, .bool (clean mn).b, .string (clean mn).s], .agg #[.int .i64 (kindV mx), .int .i64 (clean mx).i, .bool (clean mx).b, .string (clean mx).s], .agg #[.int .i64 n.v.kind, .int .i64 n.v.i, .bool n.v.b, .string n.v.s]] w' fun e w'' => e = .returned (.bool (someB (oppC n.cmp) (clean mn) (clean mx) n.v)) ∧ Step w' w'') := by
            show ∀ w', _
            intro w'
            have := psome_any (oppC n.cmp) (clean mn) (clean mx) n.v w' (oppC_bd n.cmp).1 (oppC_bd n.cmp).2
            unfold Val.val at this
            rw [clean_kind, clean_kind] at this
            exact this
          have PO := hide (fun w' => popp_any n.cmp w' hc'.1 hc'.2)
          clear hc'
          obtain ⟨y1, hy1⟩ : ∃ y, someB n.cmp (clean mn) (clean mx) n.v = y := ⟨_, rfl⟩
          obtain ⟨y2, hy2⟩ : ∃ y, someB (oppC n.cmp) (clean mn) (clean mx) n.v = y := ⟨_, rfl⟩
          rw [hy1] at PS1 HR2
          rw [hy2] at PS2 HR2
          clear hy1 hy2
          obtain ⟨x0, x1, x2, x3⟩ := At.z4 XB.out.at0; have lx := XB.out.lt
          obtain ⟨y_0, y_1, y_2, y_3⟩ := At.z4 YB.out.at0; have ly := YB.out.lt
          obtain ⟨n0, n1, n2, n3, n4, n5, n6, n7, n8⟩ := At.l9 (HN.out.below (fut w0 X) hb)
          have hlt1 : b < X.heap.size := by omega
          go_upto_region 12 with (fail)
          refine wp_region_held_drew (S := (fun w' => Step X w' ∧ (∀ b o, b < X.heap.size → w'.cell? ⟨b, o, none⟩ = X.cell? ⟨b, o, none⟩))) (by kernel_rfl) (by (try dsimp only); (first | exact ⟨hS1, hS2⟩ | exact ⟨Step.of, (bcell (fut _ _)).1⟩)) (fun hHeld => ?_)
          refine wpAnyH_take (i := 0) (oi := ⟨some 48, _, _, _, _, _⟩) (v := ?_) rfl (by kernel_rfl) (by kernel_rfl) (by kernel_rfl) (fun _ _ _ h => h) (Or.inl ⟨by rfl, ?_⟩) (by assumption) ?_
          rotate_left
          · ((intro w hSw); (try dsimp only at hSw); go_simp; (try with_reducible rfl))
          (try simp only [Act.put, List.setIfInBounds_toArray, List.set_cons_zero, List.set_cons_succ])
          refine wpAnyH_take (i := 1) (oi := ⟨some 49, _, _, _, _, _⟩) (v := ?_) rfl (by kernel_rfl) (by kernel_rfl) (by kernel_rfl) (fun _ _ _ h => h) (Or.inl ⟨by rfl, ?_⟩) (by assumption) ?_
          rotate_left
          · ((intro w hSw); (try dsimp only at hSw); go_simp; (try with_reducible rfl))
          (try simp only [Act.put, List.setIfInBounds_toArray, List.set_cons_zero, List.set_cons_succ])
          refine wpAnyH_take (i := 2) (oi := ⟨some 50, _, _, _, _, _⟩) (v := ?_) rfl (by kernel_rfl) (by kernel_rfl) (by kernel_rfl) (fun _ _ _ h => h) (Or.inl ⟨by rfl, ?_⟩) (by assumption) ?_
          rotate_left
          · ((intro w hSw); (try dsimp only at hSw); go_simp; (try with_reducible rfl))
          (try simp only [Act.put, List.setIfInBounds_toArray, List.set_cons_zero, List.set_cons_succ])
          refine wpAnyH_take (i := 3) (oi := ⟨some 51, _, _, _, _, _⟩) (v := ?_) rfl (by kernel_rfl) (by kernel_rfl) (by kernel_rfl) (fun _ _ _ h => h) (Or.inl ⟨by rfl, ?_⟩) (by assumption) ?_
          rotate_left
          · ((intro w hSw); (try dsimp only at hSw); go_simp; (try with_reducible rfl))
          (try simp only [Act.put, List.setIfInBounds_toArray, List.set_cons_zero, List.set_cons_succ])
          refine wpAnyH_take (i := 4) (oi := ⟨some 52, _, _, _, _, _⟩) (v := ?_) rfl (by kernel_rfl) (by kernel_rfl) (by kernel_rfl) (fun _ _ _ h => h) (Or.inl ⟨by rfl, ?_⟩) (by assumption) ?_
          rotate_left
          · ((intro w hSw); (try dsimp only at hSw); go_simp; (try with_reducible rfl))
          (try simp only [Act.put, List.setIfInBounds_toArray, List.set_cons_zero, List.set_cons_succ])
          refine wpAnyH_take (i := 5) (oi := ⟨some 53, _, _, _, _, _⟩) (v := ?_) rfl (by kernel_rfl) (by kernel_rfl) (by kernel_rfl) (fun _ _ _ h => h) (Or.inl ⟨by rfl, ?_⟩) (by assumption) ?_
          rotate_left
          · ((intro w hSw); (try dsimp only at hSw); go_simp; (try with_reducible rfl))
          (try simp only [Act.put, List.setIfInBounds_toArray, List.set_cons_zero, List.set_cons_succ])
          refine wpAnyH_take (i := 6) (oi := ⟨some 54, _, _, _, _, _⟩) (v := ?_) rfl (by kernel_rfl) (by kernel_rfl) (by kernel_rfl) (fun _ _ _ h => h) (Or.inl ⟨by rfl, ?_⟩) (by assumption) ?_
          rotate_left
          · ((intro w hSw); (try dsimp only at hSw); go_simp; (try with_reducible rfl))
          (try simp only [Act.put, List.setIfInBounds_toArray, List.set_cons_zero, List.set_cons_succ])
          refine wpAnyH_take (i := 7) (oi := ⟨some 55, _, _, _, _, _⟩) (v := ?_) rfl (by kernel_rfl) (by kernel_rfl) (by kernel_rfl) (fun _ _ _ h => h) (Or.inl ⟨by rfl, ?_⟩) (by assumption) ?_
          rotate_left
          · ((intro w hSw); (try dsimp only at hSw); go_simp; (try with_reducible rfl))
          (try simp only [Act.put, List.setIfInBounds_toArray, List.set_cons_zero, List.set_cons_succ])
          refine wpAnyH_take (i := 8) (oi := ⟨some 56, _, _, _, _, _⟩) (v := ?_) rfl (by kernel_rfl) (by kernel_rfl) (by kernel_rfl) (fun _ _ _ h => h) (Or.inl ⟨by rfl, ?_⟩) (by assumption) ?_
          rotate_left
          · ((intro w hSw); (try dsimp only at hSw); go_simp; (try with_reducible rfl))
          (try simp only [Act.put, List.setIfInBounds_toArray, List.set_cons_zero, List.set_cons_succ])
          refine wpAnyH_take (i := 9) (oi := ⟨some 57, _, _, _, _, _⟩) (v := ?_) rfl (by kernel_rfl) (by kernel_rfl) (by kernel_rfl) (fun _ _ _ h => h) (Or.inl ⟨by rfl, ?_⟩) (by assumption) ?_
          rotate_left
          · ((intro w hSw); (try dsimp only at hSw); go_simp; (try with_reducible rfl))
          (try simp only [Act.put, List.setIfInBounds_toArray, List.set_cons_zero, List.set_cons_succ])
          refine wpAnyH_ready (rs := [10]) (by kernel_rfl) (by simp) ?_
          refine AllReadyH.cons (o := ⟨some 58, _, _, _, _, _⟩) rfl (fun K hK => ?_) AllReadyH.nil
          obtain ⟨hS1, hS2⟩ := hHeld
          go_simp
          (go_at_call 55; (with_reducible refine (PS1.out _).mono ?_); rintro e w5 ⟨rfl, hs5⟩)
          refine hK.out _ _ (by (try dsimp only); (first | exact ⟨hS1, hS2⟩ | exact ⟨Step.of, (bcell (fut _ _)).1⟩)) (fun hHeld => ?_)
          clear hK K
          (try simp only [Act.put, List.setIfInBounds_toArray, List.set_cons_zero, List.set_cons_succ])
          refine wpAnyH_done (by kernel_rfl) ?_ _
          obtain ⟨hS1, hS2⟩ := hHeld
          have zY := hS1.size
          clear x0 x1 x2 x3 lx y_0 y_1 y_2 y_3 ly n0 n1 n2 n3 n4 n5 n6 n7 n8 hlt1 hS2
          rcases hp with rfl | rfl
          · cases y1
            · go_upto_region 14 with (first | (go_at_call 28; first | (with_reducible refine (pof_k1 _ _ (by first | rfl | simp)).mono ?_; rintro e w' ⟨rfl, rfl⟩) | (with_reducible refine (pof_k0 _ _ (by first | rfl | simp)).mono ?_; rintro e w' ⟨rfl, rfl⟩) | (with_reducible refine (pof_k2 _ _ (by first | rfl | simp)).mono ?_; rintro e w' ⟨rfl, rfl⟩)))
              obtain ⟨Y, hY⟩ : ∃ Y, Y = w5 := ⟨_, rfl⟩
              rw [← hY]
              have hsY : Step w5 Y := by rw [hY]; exact Step.of
              clear hY
              have zY2 := hsY.size
              obtain ⟨x0, x1, x2, x3⟩ := At.z4 (XB.out.fut (w' := Y)).at0; have lx := (XB.out.fut (w' := Y)).lt
              obtain ⟨y_0, y_1, y_2, y_3⟩ := At.z4 (YB.out.fut (w' := Y)).at0; have ly := (YB.out.fut (w' := Y)).lt
              obtain ⟨n0, n1, n2, n3, n4, n5, n6, n7, n8⟩ := At.l9 (HN.out.below (fut w0 Y) hb)
              have hlt1 : b < Y.heap.size := by omega
              refine wp_region_held_drew (S := (fun w' => Step Y w' ∧ (∀ b o, b < Y.heap.size → w'.cell? ⟨b, o, none⟩ = Y.cell? ⟨b, o, none⟩))) (by kernel_rfl) (by (try dsimp only); (first | exact ⟨hS1, hS2⟩ | exact ⟨Step.of, (bcell (fut _ _)).1⟩)) (fun hHeld => ?_)
              refine wpAnyH_take (i := 0) (oi := ⟨some 63, _, _, _, _, _⟩) (v := ?_) rfl (by kernel_rfl) (by kernel_rfl) (by kernel_rfl) (fun _ _ _ h => h) (Or.inl ⟨by rfl, ?_⟩) (by assumption) ?_
              rotate_left
              · ((intro w hSw); (try dsimp only at hSw); go_simp; (try with_reducible rfl))
              (try simp only [Act.put, List.setIfInBounds_toArray, List.set_cons_zero, List.set_cons_succ])
              refine wpAnyH_take (i := 1) (oi := ⟨some 64, _, _, _, _, _⟩) (v := ?_) rfl (by kernel_rfl) (by kernel_rfl) (by kernel_rfl) (fun _ _ _ h => h) (Or.inl ⟨by rfl, ?_⟩) (by assumption) ?_
              rotate_left
              · ((intro w hSw); (try dsimp only at hSw); go_simp; (try with_reducible rfl))
              (try simp only [Act.put, List.setIfInBounds_toArray, List.set_cons_zero, List.set_cons_succ])
              refine wpAnyH_take (i := 2) (oi := ⟨some 65, _, _, _, _, _⟩) (v := ?_) rfl (by kernel_rfl) (by kernel_rfl) (by kernel_rfl) (fun _ _ _ h => h) (Or.inl ⟨by rfl, ?_⟩) (by assumption) ?_
              rotate_left
              · ((intro w hSw); (try dsimp only at hSw); go_simp; (try with_reducible rfl))
              (try simp only [Act.put, List.setIfInBounds_toArray, List.set_cons_zero, List.set_cons_succ])
              refine wpAnyH_take (i := 3) (oi := ⟨some 66, _, _, _, _, _⟩) (v := ?_) rfl (by kernel_rfl) (by kernel_rfl) (by kernel_rfl) (fun _ _ _ h => h) (Or.inl ⟨by rfl, ?_⟩) (by assumption) ?_
              rotate_left
              · ((intro w hSw); (try dsimp only at hSw); go_simp; (try with_reducible rfl))
              (try simp only [Act.put, List.setIfInBounds_toArray, List.set_cons_zero, List.set_cons_succ])
              refine wpAnyH_take (i := 5) (oi := ⟨some 68, _, _, _, _, _⟩) (v := ?_) rfl (by kernel_rfl) (by kernel_rfl) (by kernel_rfl) (fun _ _ _ h => h) (Or.inl ⟨by rfl, ?_⟩) (by assumption) ?_
              rotate_left
              · ((intro w hSw); (try dsimp only at hSw); go_simp; (try with_reducible rfl))
              (try simp only [Act.put, List.setIfInBounds_toArray, List.set_cons_zero, List.set_cons_succ])
              refine wpAnyH_take (i := 6) (oi := ⟨some 69, _, _, _, _, _⟩) (v := ?_) rfl (by kernel_rfl) (by kernel_rfl) (by kernel_rfl) (fun _ _ _ h => h) (Or.inl ⟨by rfl, ?_⟩) (by assumption) ?_
              rotate_left
              · ((intro w hSw); (try dsimp only at hSw); go_simp; (try with_reducible rfl))
              (try simp only [Act.put, List.setIfInBounds_toArray, List.set_cons_zero, List.set_cons_succ])
              refine wpAnyH_take (i := 7) (oi := ⟨some 70, _, _, _, _, _⟩) (v := ?_) rfl (by kernel_rfl) (by kernel_rfl) (by kernel_rfl) (fun _ _ _ h => h) (Or.inl ⟨by rfl, ?_⟩) (by assumption) ?_
              rotate_left
              · ((intro w hSw); (try dsimp only at hSw); go_simp; (try with_reducible rfl))
              (try simp only [Act.put, List.setIfInBounds_toArray, List.set_cons_zero, List.set_cons_succ])
              refine wpAnyH_take (i := 8) (oi := ⟨some 71, _, _, _, _, _⟩) (v := ?_) rfl (by kernel_rfl) (by kernel_rfl) (by kernel_rfl) (fun _ _ _ h => h) (Or.inl ⟨by rfl, ?_⟩) (by assumption) ?_
              rotate_left
              · ((intro w hSw); (try dsimp only at hSw); go_simp; (try with_reducible rfl))
              (try simp only [Act.put, List.setIfInBounds_toArray, List.set_cons_zero, List.set_cons_succ])
              refine wpAnyH_take (i := 9) (oi := ⟨some 72, _, _, _, _, _⟩) (v := ?_) rfl (by kernel_rfl) (by kernel_rfl) (by kernel_rfl) (fun _ _ _ h => h) (Or.inl ⟨by rfl, ?_⟩) (by assumption) ?_
              rotate_left
              · ((intro w hSw); (try dsimp only at hSw); go_simp; (try with_reducible rfl))
              (try simp only [Act.put, List.setIfInBounds_toArray, List.set_cons_zero, List.set_cons_succ])
              refine wpAnyH_take (i := 10) (oi := ⟨some 73, _, _, _, _, _⟩) (v := ?_) rfl (by kernel_rfl) (by kernel_rfl) (by kernel_rfl) (fun _ _ _ h => h) (Or.inl ⟨by rfl, ?_⟩) (by assumption) ?_
              rotate_left
              · ((intro w hSw); (try dsimp only at hSw); go_simp; (try with_reducible rfl))
              (try simp only [Act.put, List.setIfInBounds_toArray, List.set_cons_zero, List.set_cons_succ])
              refine wpAnyH_ready (rs := [4]) (by kernel_rfl) (by simp) ?_
              refine AllReadyH.cons (o := ⟨some 67, _, _, _, _, _⟩) rfl (fun K hK => ?_) AllReadyH.nil
              obtain ⟨hS1, hS2⟩ := hHeld
              go_simp
              (go_at_call 56; (with_reducible refine (PO.out _).mono ?_); rintro e w' ⟨rfl, rfl⟩)
              refine hK.out _ _ (by (try dsimp only); (first | exact ⟨hS1, hS2⟩ | exact ⟨Step.of, (bcell (fut _ _)).1⟩)) (fun hHeld => ?_)
              clear hK K
              (try simp only [Act.put, List.setIfInBounds_toArray, List.set_cons_zero, List.set_cons_succ])
              refine wpAnyH_ready (rs := [11]) (by kernel_rfl) (by simp) ?_
              refine AllReadyH.cons (o := ⟨some 74, _, _, _, _, _⟩) rfl (fun K hK => ?_) AllReadyH.nil
              obtain ⟨hS1, hS2⟩ := hHeld
              go_simp
              (go_at_call 55; (with_reducible refine (PS2.out _).mono ?_); rintro e w6 ⟨rfl, hs6⟩)
              refine hK.out _ _ (by (try dsimp only); (first | exact ⟨hS1, hS2⟩ | exact ⟨Step.of, (bcell (fut _ _)).1⟩)) (fun hHeld => ?_)
              clear hK K
              (try simp only [Act.put, List.setIfInBounds_toArray, List.set_cons_zero, List.set_cons_succ])
              refine wpAnyH_done (by kernel_rfl) ?_ _
              obtain ⟨hS1, hS2⟩ := hHeld
              clear x0 x1 x2 x3 lx y_0 y_1 y_2 y_3 ly n0 n1 n2 n3 n4 n5 n6 n7 n8 hlt1 hS2
              cases y2
              all_goals
                go_wp2_with (first | (go_at_call 28; first | (with_reducible refine (pof_k1 _ _ (by first | rfl | simp)).mono ?_; rintro e w' ⟨rfl, rfl⟩) | (with_reducible refine (pof_k0 _ _ (by first | rfl | simp)).mono ?_; rintro e w' ⟨rfl, rfl⟩) | (with_reducible refine (pof_k2 _ _ (by first | rfl | simp)).mono ?_; rintro e w' ⟨rfl, rfl⟩)))
                go_ret
                exact ⟨by rw [← HTR.out, HR2.out]; rfl, Step.of⟩
            · go_upto_region 14 with (first | (go_at_call 28; first | (with_reducible refine (pof_k1 _ _ (by first | rfl | simp)).mono ?_; rintro e w' ⟨rfl, rfl⟩) | (with_reducible refine (pof_k0 _ _ (by first | rfl | simp)).mono ?_; rintro e w' ⟨rfl, rfl⟩) | (with_reducible refine (pof_k2 _ _ (by first | rfl | simp)).mono ?_; rintro e w' ⟨rfl, rfl⟩)))
              obtain ⟨Y, hY⟩ : ∃ Y, Y = (w5.alloc (.cells #[.int .i64 1] 3)) := ⟨_, rfl⟩
              rw [← hY]
              have hsY : Step w5 Y := by rw [hY]; exact Step.of
              clear hY
              have zY2 := hsY.size
              obtain ⟨x0, x1, x2, x3⟩ := At.z4 (XB.out.fut (w' := Y)).at0; have lx := (XB.out.fut (w' := Y)).lt
              obtain ⟨y_0, y_1, y_2, y_3⟩ := At.z4 (YB.out.fut (w' := Y)).at0; have ly := (YB.out.fut (w' := Y)).lt
              obtain ⟨n0, n1, n2, n3, n4, n5, n6, n7, n8⟩ := At.l9 (HN.out.below (fut w0 Y) hb)
              have hlt1 : b < Y.heap.size := by omega
              refine wp_region_held_drew (S := (fun w' => Step Y w' ∧ (∀ b o, b < Y.heap.size → w'.cell? ⟨b, o, none⟩ = Y.cell? ⟨b, o, none⟩))) (by kernel_rfl) (by (try dsimp only); (first | exact ⟨hS1, hS2⟩ | exact ⟨Step.of, (bcell (fut _ _)).1⟩)) (fun hHeld => ?_)
              refine wpAnyH_take (i := 0) (oi := ⟨some 63, _, _, _, _, _⟩) (v := ?_) rfl (by kernel_rfl) (by kernel_rfl) (by kernel_rfl) (fun _ _ _ h => h) (Or.inl ⟨by rfl, ?_⟩) (by assumption) ?_
              rotate_left
              · ((intro w hSw); (try dsimp only at hSw); go_simp; (try with_reducible rfl))
              (try simp only [Act.put, List.setIfInBounds_toArray, List.set_cons_zero, List.set_cons_succ])
              refine wpAnyH_take (i := 1) (oi := ⟨some 64, _, _, _, _, _⟩) (v := ?_) rfl (by kernel_rfl) (by kernel_rfl) (by kernel_rfl) (fun _ _ _ h => h) (Or.inl ⟨by rfl, ?_⟩) (by assumption) ?_
              rotate_left
              · ((intro w hSw); (try dsimp only at hSw); go_simp; (try with_reducible rfl))
              (try simp only [Act.put, List.setIfInBounds_toArray, List.set_cons_zero, List.set_cons_succ])
              refine wpAnyH_take (i := 2) (oi := ⟨some 65, _, _, _, _, _⟩) (v := ?_) rfl (by kernel_rfl) (by kernel_rfl) (by kernel_rfl) (fun _ _ _ h => h) (Or.inl ⟨by rfl, ?_⟩) (by assumption) ?_
              rotate_left
              · ((intro w hSw); (try dsimp only at hSw); go_simp; (try with_reducible rfl))
              (try simp only [Act.put, List.setIfInBounds_toArray, List.set_cons_zero, List.set_cons_succ])
              refine wpAnyH_take (i := 3) (oi := ⟨some 66, _, _, _, _, _⟩) (v := ?_) rfl (by kernel_rfl) (by kernel_rfl) (by kernel_rfl) (fun _ _ _ h => h) (Or.inl ⟨by rfl, ?_⟩) (by assumption) ?_
              rotate_left
              · ((intro w hSw); (try dsimp only at hSw); go_simp; (try with_reducible rfl))
              (try simp only [Act.put, List.setIfInBounds_toArray, List.set_cons_zero, List.set_cons_succ])
              refine wpAnyH_take (i := 5) (oi := ⟨some 68, _, _, _, _, _⟩) (v := ?_) rfl (by kernel_rfl) (by kernel_rfl) (by kernel_rfl) (fun _ _ _ h => h) (Or.inl ⟨by rfl, ?_⟩) (by assumption) ?_
              rotate_left
              · ((intro w hSw); (try dsimp only at hSw); go_simp; (try with_reducible rfl))
              (try simp only [Act.put, List.setIfInBounds_toArray, List.set_cons_zero, List.set_cons_succ])
              refine wpAnyH_take (i := 6) (oi := ⟨some 69, _, _, _, _, _⟩) (v := ?_) rfl (by kernel_rfl) (by kernel_rfl) (by kernel_rfl) (fun _ _ _ h => h) (Or.inl ⟨by rfl, ?_⟩) (by assumption) ?_
              rotate_left
              · ((intro w hSw); (try dsimp only at hSw); go_simp; (try with_reducible rfl))
              (try simp only [Act.put, List.setIfInBounds_toArray, List.set_cons_zero, List.set_cons_succ])
              refine wpAnyH_take (i := 7) (oi := ⟨some 70, _, _, _, _, _⟩) (v := ?_) rfl (by kernel_rfl) (by kernel_rfl) (by kernel_rfl) (fun _ _ _ h => h) (Or.inl ⟨by rfl, ?_⟩) (by assumption) ?_
              rotate_left
              · ((intro w hSw); (try dsimp only at hSw); go_simp; (try with_reducible rfl))
              (try simp only [Act.put, List.setIfInBounds_toArray, List.set_cons_zero, List.set_cons_succ])
              refine wpAnyH_take (i := 8) (oi := ⟨some 71, _, _, _, _, _⟩) (v := ?_) rfl (by kernel_rfl) (by kernel_rfl) (by kernel_rfl) (fun _ _ _ h => h) (Or.inl ⟨by rfl, ?_⟩) (by assumption) ?_
              rotate_left
              · ((intro w hSw); (try dsimp only at hSw); go_simp; (try with_reducible rfl))
              (try simp only [Act.put, List.setIfInBounds_toArray, List.set_cons_zero, List.set_cons_succ])
              refine wpAnyH_take (i := 9) (oi := ⟨some 72, _, _, _, _, _⟩) (v := ?_) rfl (by kernel_rfl) (by kernel_rfl) (by kernel_rfl) (fun _ _ _ h => h) (Or.inl ⟨by rfl, ?_⟩) (by assumption) ?_
              rotate_left
              · ((intro w hSw); (try dsimp only at hSw); go_simp; (try with_reducible rfl))
              (try simp only [Act.put, List.setIfInBounds_toArray, List.set_cons_zero, List.set_cons_succ])
              refine wpAnyH_take (i := 10) (oi := ⟨some 73, _, _, _, _, _⟩) (v := ?_) rfl (by kernel_rfl) (by kernel_rfl) (by kernel_rfl) (fun _ _ _ h => h) (Or.inl ⟨by rfl, ?_⟩) (by assumption) ?_
              rotate_left
              · ((intro w hSw); (try dsimp only at hSw); go_simp; (try with_reducible rfl))
              (try simp only [Act.put, List.setIfInBounds_toArray, List.set_cons_zero, List.set_cons_succ])
              refine wpAnyH_ready (rs := [4]) (by kernel_rfl) (by simp) ?_
              refine AllReadyH.cons (o := ⟨some 67, _, _, _, _, _⟩) rfl (fun K hK => ?_) AllReadyH.nil
              obtain ⟨hS1, hS2⟩ := hHeld
              go_simp
              (go_at_call 56; (with_reducible refine (PO.out _).mono ?_); rintro e w' ⟨rfl, rfl⟩)
              refine hK.out _ _ (by (try dsimp only); (first | exact ⟨hS1, hS2⟩ | exact ⟨Step.of, (bcell (fut _ _)).1⟩)) (fun hHeld => ?_)
              clear hK K
              (try simp only [Act.put, List.setIfInBounds_toArray, List.set_cons_zero, List.set_cons_succ])
              refine wpAnyH_ready (rs := [11]) (by kernel_rfl) (by simp) ?_
              refine AllReadyH.cons (o := ⟨some 74, _, _, _, _, _⟩) rfl (fun K hK => ?_) AllReadyH.nil
              obtain ⟨hS1, hS2⟩ := hHeld
              go_simp
              (go_at_call 55; (with_reducible refine (PS2.out _).mono ?_); rintro e w6 ⟨rfl, hs6⟩)
              refine hK.out _ _ (by (try dsimp only); (first | exact ⟨hS1, hS2⟩ | exact ⟨Step.of, (bcell (fut _ _)).1⟩)) (fun hHeld => ?_)
              clear hK K
              (try simp only [Act.put, List.setIfInBounds_toArray, List.set_cons_zero, List.set_cons_succ])
              refine wpAnyH_done (by kernel_rfl) ?_ _
              obtain ⟨hS1, hS2⟩ := hHeld
              clear x0 x1 x2 x3 lx y_0 y_1 y_2 y_3 ly n0 n1 n2 n3 n4 n5 n6 n7 n8 hlt1 hS2
              cases y2
              all_goals
                go_wp2_with (first | (go_at_call 28; first | (with_reducible refine (pof_k1 _ _ (by first | rfl | simp)).mono ?_; rintro e w' ⟨rfl, rfl⟩) | (with_reducible refine (pof_k0 _ _ (by first | rfl | simp)).mono ?_; rintro e w' ⟨rfl, rfl⟩) | (with_reducible refine (pof_k2 _ _ (by first | rfl | simp)).mono ?_; rintro e w' ⟨rfl, rfl⟩)))
                go_ret
                exact ⟨by rw [← HTR.out, HR2.out]; rfl, Step.of⟩
          · cases y1
            · go_upto_region 14 with (first | (go_at_call 28; first | (with_reducible refine (pof_k1 _ _ (by first | rfl | simp)).mono ?_; rintro e w' ⟨rfl, rfl⟩) | (with_reducible refine (pof_k0 _ _ (by first | rfl | simp)).mono ?_; rintro e w' ⟨rfl, rfl⟩) | (with_reducible refine (pof_k2 _ _ (by first | rfl | simp)).mono ?_; rintro e w' ⟨rfl, rfl⟩)))
              obtain ⟨Y, hY⟩ : ∃ Y, Y = w5 := ⟨_, rfl⟩
              rw [← hY]
              have hsY : Step w5 Y := by rw [hY]; exact Step.of
              clear hY
              have zY2 := hsY.size
              obtain ⟨x0, x1, x2, x3⟩ := At.z4 (XB.out.fut (w' := Y)).at0; have lx := (XB.out.fut (w' := Y)).lt
              obtain ⟨y_0, y_1, y_2, y_3⟩ := At.z4 (YB.out.fut (w' := Y)).at0; have ly := (YB.out.fut (w' := Y)).lt
              obtain ⟨n0, n1, n2, n3, n4, n5, n6, n7, n8⟩ := At.l9 (HN.out.below (fut w0 Y) hb)
              have hlt1 : b < Y.heap.size := by omega
              refine wp_region_held_drew (S := (fun w' => Step Y w' ∧ (∀ b o, b < Y.heap.size → w'.cell? ⟨b, o, none⟩ = Y.cell? ⟨b, o, none⟩))) (by kernel_rfl) (by (try dsimp only); (first | exact ⟨hS1, hS2⟩ | exact ⟨Step.of, (bcell (fut _ _)).1⟩)) (fun hHeld => ?_)
              refine wpAnyH_take (i := 0) (oi := ⟨some 63, _, _, _, _, _⟩) (v := ?_) rfl (by kernel_rfl) (by kernel_rfl) (by kernel_rfl) (fun _ _ _ h => h) (Or.inl ⟨by rfl, ?_⟩) (by assumption) ?_
              rotate_left
              · ((intro w hSw); (try dsimp only at hSw); go_simp; (try with_reducible rfl))
              (try simp only [Act.put, List.setIfInBounds_toArray, List.set_cons_zero, List.set_cons_succ])
              refine wpAnyH_take (i := 1) (oi := ⟨some 64, _, _, _, _, _⟩) (v := ?_) rfl (by kernel_rfl) (by kernel_rfl) (by kernel_rfl) (fun _ _ _ h => h) (Or.inl ⟨by rfl, ?_⟩) (by assumption) ?_
              rotate_left
              · ((intro w hSw); (try dsimp only at hSw); go_simp; (try with_reducible rfl))
              (try simp only [Act.put, List.setIfInBounds_toArray, List.set_cons_zero, List.set_cons_succ])
              refine wpAnyH_take (i := 2) (oi := ⟨some 65, _, _, _, _, _⟩) (v := ?_) rfl (by kernel_rfl) (by kernel_rfl) (by kernel_rfl) (fun _ _ _ h => h) (Or.inl ⟨by rfl, ?_⟩) (by assumption) ?_
              rotate_left
              · ((intro w hSw); (try dsimp only at hSw); go_simp; (try with_reducible rfl))
              (try simp only [Act.put, List.setIfInBounds_toArray, List.set_cons_zero, List.set_cons_succ])
              refine wpAnyH_take (i := 3) (oi := ⟨some 66, _, _, _, _, _⟩) (v := ?_) rfl (by kernel_rfl) (by kernel_rfl) (by kernel_rfl) (fun _ _ _ h => h) (Or.inl ⟨by rfl, ?_⟩) (by assumption) ?_
              rotate_left
              · ((intro w hSw); (try dsimp only at hSw); go_simp; (try with_reducible rfl))
              (try simp only [Act.put, List.setIfInBounds_toArray, List.set_cons_zero, List.set_cons_succ])
              refine wpAnyH_take (i := 5) (oi := ⟨some 68, _, _, _, _, _⟩) (v := ?_) rfl (by kernel_rfl) (by kernel_rfl) (by kernel_rfl) (fun _ _ _ h => h) (Or.inl ⟨by rfl, ?_⟩) (by assumption) ?_
              rotate_left
              · ((intro w hSw); (try dsimp only at hSw); go_simp; (try with_reducible rfl))
              (try simp only [Act.put, List.setIfInBounds_toArray, List.set_cons_zero, List.set_cons_succ])
              refine wpAnyH_take (i := 6) (oi := ⟨some 69, _, _, _, _, _⟩) (v := ?_) rfl (by kernel_rfl) (by kernel_rfl) (by kernel_rfl) (fun _ _ _ h => h) (Or.inl ⟨by rfl, ?_⟩) (by assumption) ?_
              rotate_left
              · ((intro w hSw); (try dsimp only at hSw); go_simp; (try with_reducible rfl))
              (try simp only [Act.put, List.setIfInBounds_toArray, List.set_cons_zero, List.set_cons_succ])
              refine wpAnyH_take (i := 7) (oi := ⟨some 70, _, _, _, _, _⟩) (v := ?_) rfl (by kernel_rfl) (by kernel_rfl) (by kernel_rfl) (fun _ _ _ h => h) (Or.inl ⟨by rfl, ?_⟩) (by assumption) ?_
              rotate_left
              · ((intro w hSw); (try dsimp only at hSw); go_simp; (try with_reducible rfl))
              (try simp only [Act.put, List.setIfInBounds_toArray, List.set_cons_zero, List.set_cons_succ])
              refine wpAnyH_take (i := 8) (oi := ⟨some 71, _, _, _, _, _⟩) (v := ?_) rfl (by kernel_rfl) (by kernel_rfl) (by kernel_rfl) (fun _ _ _ h => h) (Or.inl ⟨by rfl, ?_⟩) (by assumption) ?_
              rotate_left
              · ((intro w hSw); (try dsimp only at hSw); go_simp; (try with_reducible rfl))
              (try simp only [Act.put, List.setIfInBounds_toArray, List.set_cons_zero, List.set_cons_succ])
              refine wpAnyH_take (i := 9) (oi := ⟨some 72, _, _, _, _, _⟩) (v := ?_) rfl (by kernel_rfl) (by kernel_rfl) (by kernel_rfl) (fun _ _ _ h => h) (Or.inl ⟨by rfl, ?_⟩) (by assumption) ?_
              rotate_left
              · ((intro w hSw); (try dsimp only at hSw); go_simp; (try with_reducible rfl))
              (try simp only [Act.put, List.setIfInBounds_toArray, List.set_cons_zero, List.set_cons_succ])
              refine wpAnyH_take (i := 10) (oi := ⟨some 73, _, _, _, _, _⟩) (v := ?_) rfl (by kernel_rfl) (by kernel_rfl) (by kernel_rfl) (fun _ _ _ h => h) (Or.inl ⟨by rfl, ?_⟩) (by assumption) ?_
              rotate_left
              · ((intro w hSw); (try dsimp only at hSw); go_simp; (try with_reducible rfl))
              (try simp only [Act.put, List.setIfInBounds_toArray, List.set_cons_zero, List.set_cons_succ])
              refine wpAnyH_ready (rs := [4]) (by kernel_rfl) (by simp) ?_
              refine AllReadyH.cons (o := ⟨some 67, _, _, _, _, _⟩) rfl (fun K hK => ?_) AllReadyH.nil
              obtain ⟨hS1, hS2⟩ := hHeld
              go_simp
              (go_at_call 56; (with_reducible refine (PO.out _).mono ?_); rintro e w' ⟨rfl, rfl⟩)
              refine hK.out _ _ (by (try dsimp only); (first | exact ⟨hS1, hS2⟩ | exact ⟨Step.of, (bcell (fut _ _)).1⟩)) (fun hHeld => ?_)
              clear hK K
              (try simp only [Act.put, List.setIfInBounds_toArray, List.set_cons_zero, List.set_cons_succ])
              refine wpAnyH_ready (rs := [11]) (by kernel_rfl) (by simp) ?_
              refine AllReadyH.cons (o := ⟨some 74, _, _, _, _, _⟩) rfl (fun K hK => ?_) AllReadyH.nil
              obtain ⟨hS1, hS2⟩ := hHeld
              go_simp
              (go_at_call 55; (with_reducible refine (PS2.out _).mono ?_); rintro e w6 ⟨rfl, hs6⟩)
              refine hK.out _ _ (by (try dsimp only); (first | exact ⟨hS1, hS2⟩ | exact ⟨Step.of, (bcell (fut _ _)).1⟩)) (fun hHeld => ?_)
              clear hK K
              (try simp only [Act.put, List.setIfInBounds_toArray, List.set_cons_zero, List.set_cons_succ])
              refine wpAnyH_done (by kernel_rfl) ?_ _
              obtain ⟨hS1, hS2⟩ := hHeld
              clear x0 x1 x2 x3 lx y_0 y_1 y_2 y_3 ly n0 n1 n2 n3 n4 n5 n6 n7 n8 hlt1 hS2
              cases y2
              all_goals
                go_wp2_with (first | (go_at_call 28; first | (with_reducible refine (pof_k1 _ _ (by first | rfl | simp)).mono ?_; rintro e w' ⟨rfl, rfl⟩) | (with_reducible refine (pof_k0 _ _ (by first | rfl | simp)).mono ?_; rintro e w' ⟨rfl, rfl⟩) | (with_reducible refine (pof_k2 _ _ (by first | rfl | simp)).mono ?_; rintro e w' ⟨rfl, rfl⟩)))
                go_ret
                exact ⟨by rw [← HTR.out, HR2.out]; rfl, Step.of⟩
            · go_upto_region 14 with (first | (go_at_call 28; first | (with_reducible refine (pof_k1 _ _ (by first | rfl | simp)).mono ?_; rintro e w' ⟨rfl, rfl⟩) | (with_reducible refine (pof_k0 _ _ (by first | rfl | simp)).mono ?_; rintro e w' ⟨rfl, rfl⟩) | (with_reducible refine (pof_k2 _ _ (by first | rfl | simp)).mono ?_; rintro e w' ⟨rfl, rfl⟩)))
              obtain ⟨Y, hY⟩ : ∃ Y, Y = (w5.alloc (.cells #[.int .i64 1] 3)) := ⟨_, rfl⟩
              rw [← hY]
              have hsY : Step w5 Y := by rw [hY]; exact Step.of
              clear hY
              have zY2 := hsY.size
              obtain ⟨x0, x1, x2, x3⟩ := At.z4 (XB.out.fut (w' := Y)).at0; have lx := (XB.out.fut (w' := Y)).lt
              obtain ⟨y_0, y_1, y_2, y_3⟩ := At.z4 (YB.out.fut (w' := Y)).at0; have ly := (YB.out.fut (w' := Y)).lt
              obtain ⟨n0, n1, n2, n3, n4, n5, n6, n7, n8⟩ := At.l9 (HN.out.below (fut w0 Y) hb)
              have hlt1 : b < Y.heap.size := by omega
              refine wp_region_held_drew (S := (fun w' => Step Y w' ∧ (∀ b o, b < Y.heap.size → w'.cell? ⟨b, o, none⟩ = Y.cell? ⟨b, o, none⟩))) (by kernel_rfl) (by (try dsimp only); (first | exact ⟨hS1, hS2⟩ | exact ⟨Step.of, (bcell (fut _ _)).1⟩)) (fun hHeld => ?_)
              refine wpAnyH_take (i := 0) (oi := ⟨some 63, _, _, _, _, _⟩) (v := ?_) rfl (by kernel_rfl) (by kernel_rfl) (by kernel_rfl) (fun _ _ _ h => h) (Or.inl ⟨by rfl, ?_⟩) (by assumption) ?_
              rotate_left
              · ((intro w hSw); (try dsimp only at hSw); go_simp; (try with_reducible rfl))
              (try simp only [Act.put, List.setIfInBounds_toArray, List.set_cons_zero, List.set_cons_succ])
              refine wpAnyH_take (i := 1) (oi := ⟨some 64, _, _, _, _, _⟩) (v := ?_) rfl (by kernel_rfl) (by kernel_rfl) (by kernel_rfl) (fun _ _ _ h => h) (Or.inl ⟨by rfl, ?_⟩) (by assumption) ?_
              rotate_left
              · ((intro w hSw); (try dsimp only at hSw); go_simp; (try with_reducible rfl))
              (try simp only [Act.put, List.setIfInBounds_toArray, List.set_cons_zero, List.set_cons_succ])
              refine wpAnyH_take (i := 2) (oi := ⟨some 65, _, _, _, _, _⟩) (v := ?_) rfl (by kernel_rfl) (by kernel_rfl) (by kernel_rfl) (fun _ _ _ h => h) (Or.inl ⟨by rfl, ?_⟩) (by assumption) ?_
              rotate_left
              · ((intro w hSw); (try dsimp only at hSw); go_simp; (try with_reducible rfl))
              (try simp only [Act.put, List.setIfInBounds_toArray, List.set_cons_zero, List.set_cons_succ])
              refine wpAnyH_take (i := 3) (oi := ⟨some 66, _, _, _, _, _⟩) (v := ?_) rfl (by kernel_rfl) (by kernel_rfl) (by kernel_rfl) (fun _ _ _ h => h) (Or.inl ⟨by rfl, ?_⟩) (by assumption) ?_
              rotate_left
              · ((intro w hSw); (try dsimp only at hSw); go_simp; (try with_reducible rfl))
              (try simp only [Act.put, List.setIfInBounds_toArray, List.set_cons_zero, List.set_cons_succ])
              refine wpAnyH_take (i := 5) (oi := ⟨some 68, _, _, _, _, _⟩) (v := ?_) rfl (by kernel_rfl) (by kernel_rfl) (by kernel_rfl) (fun _ _ _ h => h) (Or.inl ⟨by rfl, ?_⟩) (by assumption) ?_
              rotate_left
              · ((intro w hSw); (try dsimp only at hSw); go_simp; (try with_reducible rfl))
              (try simp only [Act.put, List.setIfInBounds_toArray, List.set_cons_zero, List.set_cons_succ])
              refine wpAnyH_take (i := 6) (oi := ⟨some 69, _, _, _, _, _⟩) (v := ?_) rfl (by kernel_rfl) (by kernel_rfl) (by kernel_rfl) (fun _ _ _ h => h) (Or.inl ⟨by rfl, ?_⟩) (by assumption) ?_
              rotate_left
              · ((intro w hSw); (try dsimp only at hSw); go_simp; (try with_reducible rfl))
              (try simp only [Act.put, List.setIfInBounds_toArray, List.set_cons_zero, List.set_cons_succ])
              refine wpAnyH_take (i := 7) (oi := ⟨some 70, _, _, _, _, _⟩) (v := ?_) rfl (by kernel_rfl) (by kernel_rfl) (by kernel_rfl) (fun _ _ _ h => h) (Or.inl ⟨by rfl, ?_⟩) (by assumption) ?_
              rotate_left
              · ((intro w hSw); (try dsimp only at hSw); go_simp; (try with_reducible rfl))
              (try simp only [Act.put, List.setIfInBounds_toArray, List.set_cons_zero, List.set_cons_succ])
              refine wpAnyH_take (i := 8) (oi := ⟨some 71, _, _, _, _, _⟩) (v := ?_) rfl (by kernel_rfl) (by kernel_rfl) (by kernel_rfl) (fun _ _ _ h => h) (Or.inl ⟨by rfl, ?_⟩) (by assumption) ?_
              rotate_left
              · ((intro w hSw); (try dsimp only at hSw); go_simp; (try with_reducible rfl))
              (try simp only [Act.put, List.setIfInBounds_toArray, List.set_cons_zero, List.set_cons_succ])
              refine wpAnyH_take (i := 9) (oi := ⟨some 72, _, _, _, _, _⟩) (v := ?_) rfl (by kernel_rfl) (by kernel_rfl) (by kernel_rfl) (fun _ _ _ h => h) (Or.inl ⟨by rfl, ?_⟩) (by assumption) ?_
              rotate_left
              · ((intro w hSw); (try dsimp only at hSw); go_simp; (try with_reducible rfl))
              (try simp only [Act.put, List.setIfInBounds_toArray, List.set_cons_zero, List.set_cons_succ])
              refine wpAnyH_take (i := 10) (oi := ⟨some 73, _, _, _, _, _⟩) (v := ?_) rfl (by kernel_rfl) (by kernel_rfl) (by kernel_rfl) (fun _ _ _ h => h) (Or.inl ⟨by rfl, ?_⟩) (by assumption) ?_
              rotate_left
              · ((intro w hSw); (try dsimp only at hSw); go_simp; (try with_reducible rfl))
              (try simp only [Act.put, List.setIfInBounds_toArray, List.set_cons_zero, List.set_cons_succ])
              refine wpAnyH_ready (rs := [4]) (by kernel_rfl) (by simp) ?_
              refine AllReadyH.cons (o := ⟨some 67, _, _, _, _, _⟩) rfl (fun K hK => ?_) AllReadyH.nil
              obtain ⟨hS1, hS2⟩ := hHeld
              go_simp
              (go_at_call 56; (with_reducible refine (PO.out _).mono ?_); rintro e w' ⟨rfl, rfl⟩)
              refine hK.out _ _ (by (try dsimp only); (first | exact ⟨hS1, hS2⟩ | exact ⟨Step.of, (bcell (fut _ _)).1⟩)) (fun hHeld => ?_)
              clear hK K
              (try simp only [Act.put, List.setIfInBounds_toArray, List.set_cons_zero, List.set_cons_succ])
              refine wpAnyH_ready (rs := [11]) (by kernel_rfl) (by simp) ?_
              refine AllReadyH.cons (o := ⟨some 74, _, _, _, _, _⟩) rfl (fun K hK => ?_) AllReadyH.nil
              obtain ⟨hS1, hS2⟩ := hHeld
              go_simp
              (go_at_call 55; (with_reducible refine (PS2.out _).mono ?_); rintro e w6 ⟨rfl, hs6⟩)
              refine hK.out _ _ (by (try dsimp only); (first | exact ⟨hS1, hS2⟩ | exact ⟨Step.of, (bcell (fut _ _)).1⟩)) (fun hHeld => ?_)
              clear hK K
              (try simp only [Act.put, List.setIfInBounds_toArray, List.set_cons_zero, List.set_cons_succ])
              refine wpAnyH_done (by kernel_rfl) ?_ _
              obtain ⟨hS1, hS2⟩ := hHeld
              clear x0 x1 x2 x3 lx y_0 y_1 y_2 y_3 ly n0 n1 n2 n3 n4 n5 n6 n7 n8 hlt1 hS2
              cases y2
              all_goals
                go_wp2_with (first | (go_at_call 28; first | (with_reducible refine (pof_k1 _ _ (by first | rfl | simp)).mono ?_; rintro e w' ⟨rfl, rfl⟩) | (with_reducible refine (pof_k0 _ _ (by first | rfl | simp)).mono ?_; rintro e w' ⟨rfl, rfl⟩) | (with_reducible refine (pof_k2 _ _ (by first | rfl | simp)).mono ?_; rintro e w' ⟨rfl, rfl⟩)))
                go_ret
                exact ⟨by rw [← HTR.out, HR2.out]; rfl, Step.of⟩
      · have HR2 := HRP.out
        rw [if_neg hnr] at HR2
        have HR2 := hide HR2; clear HRP
        go_wp2_with fail
        go_ret
        exact ⟨by rw [← HTR.out, HR2.out]; rfl, Step.of⟩
end Go.Proofs.YtcgpfllkbflbhaaGreatDoor
