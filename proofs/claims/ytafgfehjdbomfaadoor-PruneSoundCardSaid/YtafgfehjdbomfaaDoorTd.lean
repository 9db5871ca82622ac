/-
  prune.Stats: may a file's row be taken, by its statistics.
-/
import Derived.Test.YtafgfehjdbomfaaDoorTb
import Derived.Test.YtafgfehjdbomfaaDoorTc
namespace Go.Proofs.YtafgfehjdbomfaaDoor
open Go.RowKit

theorem Blk.put1 {w : World} {g : Nat} {e : TypeId} {a : Value} (h : Blk w g e [a]) (u : Value) : Blk (w.setCell ⟨g, 0, none⟩ u) g e [u] := by simpa using h.set_ 0 u
theorem pstats1_any {w0 : World} (gr : Nat) (rows : Int) (c : Sta) (w : World) (hr : Blk w0 gr 3 [.int .i64 rows]) [hf : Fut w0 w] :
    Calls Tryd.prog 51 #[.agg #[.int .i64 c.col, .int .i64 c.nulls, .int .i64 c.mn.kind, .int .i64 c.mn.i, .bool c.mn.b, .string c.mn.s, .int .i64 c.mx.kind, .int .i64 c.mx.i, .bool c.mx.b, .string c.mx.s], .pointer (some ⟨gr, 0, none⟩)] w fun e w' => e = .returned (.bool (outOf rows c)) ∧ Step w w' := by
  have hR := (hr.fut (w' := w))
  have lr := hR.lt
  have r0 := At.z1 hR.at0
  clear hr hR
  have HO : Hid (outOf rows c = (decide (c.nulls < 0) || decide (rows < c.nulls))) := hide rfl
  rw [HO.out]
  clear HO
  by_cases h1 : c.nulls < 0
  · go_enter Tryd.func51, Tryd.ntmps51
    go_wp2_with fail
    go_ret
    exact ⟨ret_bool (by simp [h1]), Step.of⟩
  · go_enter Tryd.func51, Tryd.ntmps51
    go_wp2_with fail
    go_ret
    exact ⟨ret_bool (by simp; omega), Step.of⟩
theorem pstats21_any {w0 : World} (gi : Nat) (id : Int) (c : Sta) (w : World) (hr : Blk w0 gi 3 [.int .i64 id]) [hf : Fut w0 w] :
    Calls Tryd.prog 56 #[.agg #[.int .i64 c.col, .int .i64 c.nulls, .int .i64 c.mn.kind, .int .i64 c.mn.i, .bool c.mn.b, .string c.mn.s, .int .i64 c.mx.kind, .int .i64 c.mx.i, .bool c.mx.b, .string c.mx.s], .pointer (some ⟨gi, 0, none⟩)] w fun e w' => e = .returned (.bool (statOf id c)) ∧ Step w w' := by
  have hR := (hr.fut (w' := w))
  have lr := hR.lt
  have r0 := At.z1 hR.at0
  clear hr hR
  go_enter Tryd.func56, Tryd.ntmps56
  go_wp2_with fail
  go_ret
  exact ⟨rfl, Step.of⟩

theorem leafStat_hit {s : Sch} {sts : List Sta} {rows : Int} {n : Nod} {j : Nat} {t : Sta} (hi : idx (statOf (nodId s n)) sts = (j : Int)) (ht : sts[j]? = some t) : leafStat s sts rows n = toldS n t rows := by
  obtain ⟨e, h⟩ := idx_yes (p := statOf (nodId s n)) (l := sts) (by omega)
  have e2 : sts.findIdx (statOf (nodId s n)) = j := by omega
  rw [leafStat, if_pos (by omega), e2, List.getD_eq_getElem?_getD, ht]
  rfl
theorem leafStat_miss {s : Sch} {sts : List Sta} {rows : Int} {n : Nod} (hi : idx (statOf (nodId s n)) sts = -1) : leafStat s sts rows n = if n.kind = 2 then 2 else 4 := by
  rw [leafStat, if_neg (by omega)]

theorem node_cmp {ns : List Nod} {s : Sch} {n : Nod} (h : checkE ns s = 0) (hn : n ∈ ns) (h12 : n.kind = 1 ∨ n.kind = 2) : n.kind = 2 ∨ (0 ≤ n.cmp ∧ n.cmp ≤ 5) := by
  obtain ⟨h1, _, _⟩ := checkE_inv h
  obtain ⟨k, hk⟩ := List.getElem?_of_mem hn
  have hb := (predB_iff.1 h1).2 k n hk
  rcases h12 with h | h
  · unfold nodB at hb
    rw [if_neg (by omega), if_pos h] at hb
    simp only [Bool.and_eq_true, decide_eq_true_eq] at hb
    exact .inr ⟨hb.1.1.1, hb.1.1.2⟩
  · exact .inl h
set_option maxRecDepth 100000 in
set_option maxHeartbeats 8000000 in
theorem pstats2_any {w0 w1 w2 : World} (b o gs gt gr : Nat) (n : Nod) (s : Sch) (As : Option Addr) (cs : Nat) (sts : List Sta) (At_ : Option Addr) (ct : Nat) (rows : Int) (w : World)
    (hn : At w0 b o n.cells) (hb : b < w0.heap.size) (hs : SchIn w1 s As cs) (ht : SlAt w2 w2.heap.size 10 At_ (sts.map Sta.cells)) (htl : sts.length ≤ 4611686018427387904)
    (hbs : Blk w0 gs 27 [.int .i64 s.id, .slice As s.cols.length cs, .int .i64 s.next]) (hbt : Blk w0 gt 66 [.slice At_ sts.length ct]) (hbr : Blk w0 gr 3 [.int .i64 rows])
    [f0 : Fut w0 w] [f1 : Fut w1 w] [f2 : Fut w2 w] (h12 : n.kind = 1 ∨ n.kind = 2) (hcmp : n.kind = 2 ∨ (0 ≤ n.cmp ∧ n.cmp ≤ 5)) (hcol : ∃ j : Nat, idx (named n.col) s.cols = (j : Int) ∧ j < s.cols.length ∧ s.cols.findIdx (named n.col) = j) :
    Calls Tryd.prog 53 #[.pointer (some ⟨b, o, none⟩), .pointer (some ⟨gs, 0, none⟩), .pointer (some ⟨gt, 0, none⟩), .pointer (some ⟨gr, 0, none⟩)] w fun e w' => e = .returned (.int .u64 ((leafStat s sts rows n : Nat) : Int)) ∧ Step w w' := by
  have z0 := f0.below.size; have z1 := f1.below.size; have z2 := f2.below.size
  obtain ⟨R, hR⟩ : ∃ R, leafStat s sts rows n = R := ⟨_, rfl⟩
  have HRR := hide hR
  rw [hR]
  clear hR
  obtain ⟨W, hW⟩ : ∃ W : World, W = w := ⟨_, rfl⟩
  rw [← hW]
  have f0 : Fut w0 W := by rw [hW]; exact f0
  have f1 : Fut w1 W := by rw [hW]; exact f1
  have f2 : Fut w2 W := by rw [hW]; exact f2
  rw [← hW] at z0 z1 z2
  clear hW
  have HN := hide hn; have HBS := hide hbs; have HBT := hide hbt; have HBR := hide hbr; have HT := hide ht; have HK := hide h12; have HCM := hide hcmp
  clear hn hbs hbt hbr ht h12 hcmp
  have hls := hs.len
  obtain ⟨j, hi, hj, hfj⟩ := hcol
  obtain ⟨bc, oc, rfl, hbc, hcc⟩ := hs.at_.elem (w' := W) inferInstance (k := j) (by simpa using hj)
  obtain ⟨c, hc⟩ : ∃ c, s.cols[j]? = some c := ⟨_, List.getElem?_eq_getElem hj⟩
  obtain ⟨c0, c1, c2⟩ := At.l3 (hcc j c.cells (by simp [hc]))
  have hlc : bc < W.heap.size := by omega
  obtain ⟨id, hid⟩ : ∃ id, c.id = id := ⟨_, rfl⟩
  rw [hid] at c0
  have HID : Hid (nodId s n = id) := by show _ = _; rw [nodId, hfj, List.getD_eq_getElem?_getD, hc]; exact hid
  have fd := fun w' [Fut w1 w'] => pfind s (some ⟨bc, oc, none⟩) cs n.col w' hs
  unfold Sch.val at fd
  rw [hi] at fd
  have FD := hide fd
  clear fd hi hfj hc hcc hid
  have hj0 : (0 : Int) ≤ (j : Int) := by omega
  have hj1 : (j : Int) < (s.cols.length : Int) := by omega
  obtain ⟨n0, n1, n2, n3, n4, n5, n6, n7, n8⟩ := At.l9 (HN.out.below (fut w0 W) hb)
  have hlb : b < W.heap.size := by omega
  obtain ⟨q0, q1, q2⟩ := At.z3 (HBS.out.fut (w' := W)).at0; have lq := (HBS.out.fut (w' := W)).lt
  go_enter Tryd.func53, Tryd.ntmps53
  go_upto_region 1 with (fail)
  go_cut [6] from 8 to 18 (fun x wx => ∃ gi : Nat, x = .pointer (some ⟨gi, 0, none⟩) ∧ Blk wx gi 3 [.int .i64 id] ∧ Step W wx)
  case first =>
    refine wp_region_held_drew (S := (fun w' => Step W w' ∧ (∀ b o, b < W.heap.size → w'.cell? ⟨b, o, none⟩ = W.cell? ⟨b, o, none⟩))) (by kernel_rfl) (by (try dsimp only); (first | exact ⟨hS1, hS2⟩ | exact ⟨Step.of, (bcell (fut _ _)).1⟩)) (fun hHeld => ?_)
    refine wpAnyH_take (i := 0) (oi := ⟨some 8, _, _, _, _, _⟩) (v := ?_) rfl (by kernel_rfl) (by kernel_rfl) (by kernel_rfl) (fun _ _ _ h => h) (Or.inl ⟨by rfl, ?_⟩) (by assumption) ?_
    rotate_left
    · ((intro w hSw); (try dsimp only at hSw); go_simp; (try with_reducible rfl))
    (try simp only [Act.put, List.setIfInBounds_toArray, List.set_cons_zero, List.set_cons_succ])
    refine wpAnyH_take (i := 1) (oi := ⟨some 9, _, _, _, _, _⟩) (v := ?_) rfl (by kernel_rfl) (by kernel_rfl) (by kernel_rfl) (fun _ _ _ h => h) (Or.inl ⟨by rfl, ?_⟩) (by assumption) ?_
    rotate_left
    · ((intro w hSw); (try dsimp only at hSw); go_simp; (try with_reducible rfl))
    (try simp only [Act.put, List.setIfInBounds_toArray, List.set_cons_zero, List.set_cons_succ])
    refine wpAnyH_take (i := 2) (oi := ⟨some 10, _, _, _, _, _⟩) (v := ?_) rfl (by kernel_rfl) (by kernel_rfl) (by kernel_rfl) (fun _ _ _ h => h) (Or.inl ⟨by rfl, ?_⟩) (by assumption) ?_
    rotate_left
    · ((intro w hSw); (try dsimp only at hSw); go_simp; (try with_reducible rfl))
    (try simp only [Act.put, List.setIfInBounds_toArray, List.set_cons_zero, List.set_cons_succ])
    refine wpAnyH_take (i := 3) (oi := ⟨some 11, _, _, _, _, _⟩) (v := ?_) rfl (by kernel_rfl) (by kernel_rfl) (by kernel_rfl) (fun _ _ _ h => h) (Or.inl ⟨by rfl, ?_⟩) (by assumption) ?_
    rotate_left
    · ((intro w hSw); (try dsimp only at hSw); go_simp; (try with_reducible rfl))
    (try simp only [Act.put, List.setIfInBounds_toArray, List.set_cons_zero, List.set_cons_succ])
    refine wpAnyH_take (i := 4) (oi := ⟨some 12, _, _, _, _, _⟩) (v := ?_) rfl (by kernel_rfl) (by kernel_rfl) (by kernel_rfl) (fun _ _ _ h => h) (Or.inl ⟨by rfl, ?_⟩) (by assumption) ?_
    rotate_left
    · ((intro w hSw); (try dsimp only at hSw); go_simp; (try with_reducible rfl))
    (try simp only [Act.put, List.setIfInBounds_toArray, List.set_cons_zero, List.set_cons_succ])
    refine wpAnyH_take (i := 5) (oi := ⟨some 13, _, _, _, _, _⟩) (v := ?_) rfl (by kernel_rfl) (by kernel_rfl) (by kernel_rfl) (fun _ _ _ h => h) (Or.inl ⟨by rfl, ?_⟩) (by assumption) ?_
    rotate_left
    · ((intro w hSw); (try dsimp only at hSw); go_simp; (try with_reducible rfl))
    (try simp only [Act.put, List.setIfInBounds_toArray, List.set_cons_zero, List.set_cons_succ])
    refine wpAnyH_take (i := 6) (oi := ⟨some 14, _, _, _, _, _⟩) (v := ?_) rfl (by kernel_rfl) (by kernel_rfl) (by kernel_rfl) (fun _ _ _ h => h) (Or.inl ⟨by rfl, ?_⟩) (by assumption) ?_
    rotate_left
    · ((intro w hSw); (try dsimp only at hSw); go_simp; (try with_reducible rfl))
    (try simp only [Act.put, List.setIfInBounds_toArray, List.set_cons_zero, List.set_cons_succ])
    refine wpAnyH_ready (rs := [7, 11]) (by kernel_rfl) (by simp) ?_
    refine AllReadyH.cons (o := ⟨some 15, _, _, _, _, _⟩) rfl (fun K hK => ?_) (AllReadyH.cons (o := ⟨some 6, _, _, _, _, _⟩) rfl (fun K hK => ?_) AllReadyH.nil)
    · obtain ⟨hS1, hS2⟩ := hHeld
      go_simp
      (go_at_call 54; (with_reducible refine (FD.out _).mono ?_); intro e w3 hr3; obtain ⟨rfl, hq3⟩ := hr3; have z3 := hq3.size; skip)
      refine hK.out _ _ (by (try dsimp only); (first | exact ⟨hS1, hS2⟩ | exact ⟨Step.of, (bcell (fut _ _)).1⟩)) (fun hHeld => ?_)
      clear hK K
      (try simp only [Act.put, List.setIfInBounds_toArray, List.set_cons_zero, List.set_cons_succ])
      refine wpAnyH_take (i := 8) (oi := ⟨some 16, _, _, _, _, _⟩) (v := ?_) rfl (by kernel_rfl) (by kernel_rfl) (by kernel_rfl) (fun _ _ _ h => h) (Or.inl ⟨by rfl, ?_⟩) (by assumption) ?_
      rotate_left
      · ((intro w hSw); (try dsimp only at hSw); go_simp; (try with_reducible rfl))
      (try simp only [Act.put, List.setIfInBounds_toArray, List.set_cons_zero, List.set_cons_succ])
      refine wpAnyH_take (i := 9) (oi := ⟨some 17, _, _, _, _, _⟩) (v := ?_) rfl (by kernel_rfl) (by kernel_rfl) (by kernel_rfl) (fun _ _ _ h => h) (Or.inl ⟨by rfl, ?_⟩) (by assumption) ?_
      rotate_left
      · ((intro w hSw); (try dsimp only at hSw); go_simp; (try with_reducible rfl))
      (try simp only [Act.put, List.setIfInBounds_toArray, List.set_cons_zero, List.set_cons_succ])
      refine wpAnyH_take (i := 10) (oi := ⟨some 18, _, _, _, _, _⟩) (v := ?_) rfl (by kernel_rfl) (by kernel_rfl) (by kernel_rfl) (fun _ _ _ h => h) (Or.inl ⟨by rfl, ?_⟩) (by assumption) ?_
      rotate_left
      · ((intro w hSw); (try dsimp only at hSw); go_simp; (try with_reducible rfl))
      (try simp only [Act.put, List.setIfInBounds_toArray, List.set_cons_zero, List.set_cons_succ])
      refine wpAnyH_ready (rs := [11]) (by kernel_rfl) (by simp) ?_
      refine AllReadyH.cons (o := ⟨some 6, _, _, _, _, _⟩) rfl (fun K hK => ?_) AllReadyH.nil
      go_simp
      refine hK.out _ _ (by (try dsimp only); (exact ⟨Step.of, (bcell (fut _ _)).1⟩)) (fun hHeld => ?_)
      clear hK K
      (try simp only [Act.put, List.setIfInBounds_toArray, List.set_cons_zero, List.set_cons_succ])
      refine wpAnyH_ready (rs := [12]) (by kernel_rfl) (by simp) ?_
      refine AllReadyH.cons (o := ⟨none, _, _, _, _, _⟩) rfl (fun K hK => ?_) AllReadyH.nil
      go_simp
      refine hK.out _ _ (by (try dsimp only); (exact ⟨Step.of, (bcell (fut _ _)).1⟩)) (fun hHeld => ?_)
      clear hK K
      (try simp only [Act.put, List.setIfInBounds_toArray, List.set_cons_zero, List.set_cons_succ])
      refine wpAnyH_done (by kernel_rfl) ?_ _
      go_wp2_with fail
      go_meet
      case rel => exact ⟨w3.heap.size, rfl, (Blk.new w3 [.int .i64 id] 3), Step.of⟩
    · go_simp
      refine hK.out _ _ (by (try dsimp only); (exact ⟨Step.of, (bcell (fut _ _)).1⟩)) (fun hHeld => ?_)
      clear hK K
      (try simp only [Act.put, List.setIfInBounds_toArray, List.set_cons_zero, List.set_cons_succ])
      refine wpAnyH_ready (rs := [7]) (by kernel_rfl) (by simp) ?_
      refine AllReadyH.cons (o := ⟨some 15, _, _, _, _, _⟩) rfl (fun K hK => ?_) AllReadyH.nil
      obtain ⟨hS1, hS2⟩ := hHeld
      go_simp
      (go_at_call 54; (with_reducible refine (FD.out _).mono ?_); intro e w3 hr3; obtain ⟨rfl, hq3⟩ := hr3; have z3 := hq3.size; have hx_ := (Blk.new W [.int .i64 0] 3).fut (w' := w3); have fx := hx_.free; have lx := hx_.lt; have x0 := At.z1 hx_.at0)
      refine hK.out _ _ (by (try dsimp only); (first | exact ⟨hS1, hS2⟩ | exact ⟨Step.of, (bcell (fut _ _)).1⟩)) (fun hHeld => ?_)
      clear hK K
      (try simp only [Act.put, List.setIfInBounds_toArray, List.set_cons_zero, List.set_cons_succ])
      refine wpAnyH_take (i := 8) (oi := ⟨some 16, _, _, _, _, _⟩) (v := ?_) rfl (by kernel_rfl) (by kernel_rfl) (by kernel_rfl) (fun _ _ _ h => h) (Or.inl ⟨by rfl, ?_⟩) (by assumption) ?_
      rotate_left
      · ((intro w hSw); (try dsimp only at hSw); go_simp; (try with_reducible rfl))
      (try simp only [Act.put, List.setIfInBounds_toArray, List.set_cons_zero, List.set_cons_succ])
      refine wpAnyH_take (i := 9) (oi := ⟨some 17, _, _, _, _, _⟩) (v := ?_) rfl (by kernel_rfl) (by kernel_rfl) (by kernel_rfl) (fun _ _ _ h => h) (Or.inl ⟨by rfl, ?_⟩) (by assumption) ?_
      rotate_left
      · ((intro w hSw); (try dsimp only at hSw); go_simp; (try with_reducible rfl))
      (try simp only [Act.put, List.setIfInBounds_toArray, List.set_cons_zero, List.set_cons_succ])
      refine wpAnyH_take (i := 10) (oi := ⟨some 18, _, _, _, _, _⟩) (v := ?_) rfl (by kernel_rfl) (by kernel_rfl) (by kernel_rfl) (fun _ _ _ h => h) (Or.inl ⟨by rfl, ?_⟩) (by assumption) ?_
      rotate_left
      · ((intro w hSw); (try dsimp only at hSw); go_simp; (try with_reducible rfl))
      (try simp only [Act.put, List.setIfInBounds_toArray, List.set_cons_zero, List.set_cons_succ])
      refine wpAnyH_ready (rs := [12]) (by kernel_rfl) (by simp) ?_
      refine AllReadyH.cons (o := ⟨none, _, _, _, _, _⟩) rfl (fun K hK => ?_) AllReadyH.nil
      go_simp
      refine hK.out _ _ (by (try dsimp only); (exact ⟨Step.of, (bcell (fut _ _)).1⟩)) (fun hHeld => ?_)
      clear hK K
      (try simp only [Act.put, List.setIfInBounds_toArray, List.set_cons_zero, List.set_cons_succ])
      refine wpAnyH_done (by kernel_rfl) ?_ _
      go_wp2_with fail
      go_meet
      case rel => exact ⟨W.heap.size, rfl, (hx_.put1 (.int .i64 id)), Step.of⟩
  case rest =>
    obtain ⟨gi, rfl, hgi, hsX⟩ := hcut
    obtain ⟨X, rfl⟩ : ∃ x : World, x = wc := ⟨_, rfl⟩
    clear n0 n1 n2 n3 n4 n5 n6 n7 n8 hlb q0 q1 q2 lq c0 c1 c2 hlc FD hj0 hj1 hj hbc
    have zX := hsX.size
    have lgi := hgi.lt
    have HGI := hide hgi
    have g0 := At.z1 hgi.at0
    clear hgi
    have t0 := At.z1 (HBT.out.fut (w' := X)).at0; have lt_ := (HBT.out.fut (w' := X)).lt
    have r0 := At.z1 (HBR.out.fut (w' := X)).at0; have lr := (HBR.out.fut (w' := X)).lt
    obtain ⟨n0, n1, n2, n3, n4, n5, n6, n7, n8⟩ := At.l9 (HN.out.below (fut w0 X) hb)
    have hlb : b < X.heap.size := by omega
    have IX := indexFuncSta_any 56 #[.pointer (some ⟨gi, 0, none⟩)] (statOf id) At_ ct sts X htl HT.out (fun args w1 => by kernel_rfl) (fun c _ w' => pstats21_any gi id c w' HGI.out)
    rcases idx_cases (statOf id) sts with hi | ⟨k, hi, hk⟩
    · have HR : Hid (leafStat s sts rows n = if n.kind = 2 then 2 else 4) := by show _ = _; exact leafStat_miss (by rw [HID.out]; exact hi)
      rw [hi] at IX
      have IXH := hide IX
      clear IX hi
      by_cases hk2 : n.kind = 2
      · obtain rfl : R = 2 := by rw [← HRR.out, HR.out, if_pos hk2]
        have e2 : (n.kind == 2) = true := by simpa using hk2
        clear hk2
        go_wp2_with (first | (go_at_call 55; with_reducible refine IXH.out.mono ?_; rintro e w4 ⟨rfl, hs4⟩; clear g0 lgi t0 lt_ r0 lr n0 n1 n2 n3 n4 n5 n6 n7 n8 hlb; (obtain ⟨n0, n1, n2, n3, n4, n5, n6, n7, n8⟩ := At.l9 (HN.out.below (fut w0 w4) hb)); have z4 := hs4.size; have hlb : b < w4.heap.size := by omega) | (go_at_call 58; with_reducible refine (pof_k1 _ _ (by first | rfl | simp)).mono ?_; rintro e w' ⟨rfl, rfl⟩))
        go_ret
        exact ⟨rfl, Step.of⟩
      · obtain rfl : R = 4 := by rw [← HRR.out, HR.out, if_neg hk2]
        have e2 : (n.kind == 2) = false := by simpa using hk2
        clear hk2
        go_wp2_with (first | (go_at_call 55; with_reducible refine IXH.out.mono ?_; rintro e w4 ⟨rfl, hs4⟩; clear g0 lgi t0 lt_ r0 lr n0 n1 n2 n3 n4 n5 n6 n7 n8 hlb; (obtain ⟨n0, n1, n2, n3, n4, n5, n6, n7, n8⟩ := At.l9 (HN.out.below (fut w0 w4) hb)); have z4 := hs4.size; have hlb : b < w4.heap.size := by omega) | (go_at_call 58; with_reducible refine (pof_k2 _ _ (by first | rfl | simp)).mono ?_; rintro e w' ⟨rfl, rfl⟩))
        go_ret
        exact ⟨rfl, Step.of⟩
    · obtain ⟨t, htk⟩ : ∃ t, sts[k]? = some t := ⟨_, List.getElem?_eq_getElem hk⟩
      have HR : Hid (leafStat s sts rows n = toldS n t rows) := by show _ = _; exact leafStat_hit (by rw [HID.out]; exact hi) htk
      obtain rfl := HRR.out.symm.trans HR.out
      clear HR HRR
      rw [hi] at IX
      have IXH := hide IX
      clear IX hi
      have HK' := hide htk
      have hk0 : (0 : Int) ≤ (k : Int) := by omega
      have hk1 : (k : Int) < (sts.length : Int) := by omega
      clear htk
      go_upto_region 4 with (go_at_call 55; with_reducible refine IXH.out.mono ?_; rintro e w4 ⟨rfl, hs4⟩)
      clear g0 lgi t0 lt_ r0 lr n0 n1 n2 n3 n4 n5 n6 n7 n8 hlb IXH
      obtain ⟨X0, rfl⟩ : ∃ x : World, x = X := ⟨_, rfl⟩
      obtain ⟨X, rfl⟩ : ∃ x : World, x = w4 := ⟨_, rfl⟩
      have z4 := hs4.size
      have hlb : b < X.heap.size := by omega
      have t0 := At.z1 (HBT.out.fut (w' := X)).at0; have lt_ := (HBT.out.fut (w' := X)).lt
      have r0 := At.z1 (HBR.out.fut (w' := X)).at0; have lr := (HBR.out.fut (w' := X)).lt
      obtain ⟨bt, ot, rfl, hbt, hct⟩ := HT.out.elem (w' := X) inferInstance (k := k) (by simpa using hk)
      obtain ⟨s0, s1, s2, s3, s4, s5, s6, s7, s8, s9⟩ := At.l10 (hct k t.cells (by simp [HK'.out]))
      have hlt_ : bt < X.heap.size := by omega
      clear hct hbt
      have TD := hide (fun w' [Fut X w'] => ptold_any b o n t.col t.nulls rows t.mn t.mx w' (HN.out.below (fut w0 X) hb) hlb HCM.out)
      have HTE : Hid (toldS n ⟨t.col, t.nulls, t.mn, t.mx⟩ rows = toldS n t rows) := hide rfl
      rw [HTE.out] at TD
      refine wp_region_held_drew (S := (fun w' => Step X w' ∧ (∀ b o, b < X.heap.size → w'.cell? ⟨b, o, none⟩ = X.cell? ⟨b, o, none⟩))) (by kernel_rfl) (by (try dsimp only); (first | exact ⟨hS1, hS2⟩ | exact ⟨Step.of, (bcell (fut _ _)).1⟩)) (fun hHeld => ?_)
      refine wpAnyH_take (i := 0) (oi := ⟨some 25, _, _, _, _, _⟩) (v := ?_) rfl (by kernel_rfl) (by kernel_rfl) (by kernel_rfl) (fun _ _ _ h => h) (Or.inl ⟨by rfl, ?_⟩) (by assumption) ?_
      rotate_left
      · ((intro w hSw); (try dsimp only at hSw); go_simp; (try with_reducible rfl))
      (try simp only [Act.put, List.setIfInBounds_toArray, List.set_cons_zero, List.set_cons_succ])
      refine wpAnyH_take (i := 1) (oi := ⟨some 26, _, _, _, _, _⟩) (v := ?_) rfl (by kernel_rfl) (by kernel_rfl) (by kernel_rfl) (fun _ _ _ h => h) (Or.inl ⟨by rfl, ?_⟩) (by assumption) ?_
      rotate_left
      · ((intro w hSw); (try dsimp only at hSw); go_simp; (try with_reducible rfl))
      (try simp only [Act.put, List.setIfInBounds_toArray, List.set_cons_zero, List.set_cons_succ])
      refine wpAnyH_take (i := 2) (oi := ⟨some 27, _, _, _, _, _⟩) (v := ?_) rfl (by kernel_rfl) (by kernel_rfl) (by kernel_rfl) (fun _ _ _ h => h) (Or.inl ⟨by rfl, ?_⟩) (by assumption) ?_
      rotate_left
      · ((intro w hSw); (try dsimp only at hSw); go_simp; (try with_reducible rfl))
      (try simp only [Act.put, List.setIfInBounds_toArray, List.set_cons_zero, List.set_cons_succ])
      refine wpAnyH_take (i := 3) (oi := ⟨some 28, _, _, _, _, _⟩) (v := ?_) rfl (by kernel_rfl) (by kernel_rfl) (by kernel_rfl) (fun _ _ _ h => h) (Or.inl ⟨by rfl, ?_⟩) (by assumption) ?_
      rotate_left
      · ((intro w hSw); (try dsimp only at hSw); go_simp; (try with_reducible rfl))
      (try simp only [Act.put, List.setIfInBounds_toArray, List.set_cons_zero, List.set_cons_succ])
      refine wpAnyH_take (i := 4) (oi := ⟨some 29, _, _, _, _, _⟩) (v := ?_) rfl (by kernel_rfl) (by kernel_rfl) (by kernel_rfl) (fun _ _ _ h => h) (Or.inl ⟨by rfl, ?_⟩) (by assumption) ?_
      rotate_left
      · ((intro w hSw); (try dsimp only at hSw); go_simp; (try with_reducible rfl))
      (try simp only [Act.put, List.setIfInBounds_toArray, List.set_cons_zero, List.set_cons_succ])
      refine wpAnyH_take (i := 5) (oi := ⟨some 30, _, _, _, _, _⟩) (v := ?_) rfl (by kernel_rfl) (by kernel_rfl) (by kernel_rfl) (fun _ _ _ h => h) (Or.inl ⟨by rfl, ?_⟩) (by assumption) ?_
      rotate_left
      · ((intro w hSw); (try dsimp only at hSw); go_simp; (try with_reducible rfl))
      (try simp only [Act.put, List.setIfInBounds_toArray, List.set_cons_zero, List.set_cons_succ])
      refine wpAnyH_ready (rs := [6]) (by kernel_rfl) (by simp) ?_
      refine AllReadyH.cons (o := ⟨some 31, _, _, _, _, _⟩) rfl (fun K hK => ?_) AllReadyH.nil
      obtain ⟨hS1, hS2⟩ := hHeld
      go_simp
      (go_at_call 57; (with_reducible refine (TD.out _).mono ?_); rintro e w5 ⟨rfl, hs5⟩)
      refine hK.out _ _ (by (try dsimp only); (first | exact ⟨hS1, hS2⟩ | exact ⟨Step.of, (bcell (fut _ _)).1⟩)) (fun hHeld => ?_)
      clear hK K
      (try simp only [Act.put, List.setIfInBounds_toArray, List.set_cons_zero, List.set_cons_succ])
      refine wpAnyH_take (i := 7) (oi := ⟨some 5, _, _, _, _, _⟩) (v := ?_) rfl (by kernel_rfl) (by kernel_rfl) (by kernel_rfl) (fun _ _ _ h => h) (Or.inl ⟨by rfl, ?_⟩) (by assumption) ?_
      rotate_left
      · ((intro w hSw); (try dsimp only at hSw); go_simp; (try with_reducible rfl))
      (try simp only [Act.put, List.setIfInBounds_toArray, List.set_cons_zero, List.set_cons_succ])
      refine wpAnyH_done (by kernel_rfl) ?_ _
      obtain ⟨hS1, hS2⟩ := hHeld
      go_wp2_with fail
      go_ret
      exact ⟨rfl, Step.of⟩
set_option maxRecDepth 100000 in
set_option maxHeartbeats 8000000 in
theorem pstats_any {w0 w1 w2 : World} (ns : List Nod) (A : Option Addr) (cap : Nat) (s : Sch) (As : Option Addr) (cs : Nat) (sts : List Sta) (At_ : Option Addr) (ct : Nat) (rows : Int) (w : World) (hp : PrIn w0 ns A cap) (hs : SchIn w1 s As cs)
    (ht : SlAt w2 w2.heap.size 10 At_ (sts.map Sta.cells)) (htl : sts.length ≤ 4611686018427387904) [f0 : Fut w0 w] [f1 : Fut w1 w] [f2 : Fut w2 w] :
    Calls Tryd.prog 30 #[.agg #[.slice A ns.length cap], s.val As cs, .slice At_ sts.length ct, .int .i64 rows] w fun e w' => e = .returned (.tuple #[.bool (statsR ns s sts rows).1, .int .i64 (statsR ns s sts rows).2]) ∧ Step w w' := by
  obtain ⟨T, hT⟩ : ∃ T, statsR ns s sts rows = T := ⟨_, rfl⟩
  have HT := hide hT
  rw [hT]
  clear hT
  have z0 := f0.below.size; have z1 := f1.below.size; have z2 := f2.below.size
  have pc := fun w' [Fut w0 w'] [Fut w1 w'] => pcheck_any ns A cap s As cs w' hp hs
  unfold Sch.val at pc ⊢
  obtain ⟨W, hW⟩ : ∃ W, W = (((w.alloc (.cells #[.slice A ns.length cap] 24)).alloc (.cells #[.int .i64 s.id, .slice As s.cols.length cs, .int .i64 s.next] 27)).alloc (.cells #[.slice At_ sts.length ct] 66)).alloc (.cells #[.int .i64 rows] 3) := ⟨_, rfl⟩
  have SW : Step w W := by rw [hW]; exact Step.of
  have HPW : Hid (Blk W w.heap.size 24 [.slice A ns.length cap]) := by rw [hW]; exact (((Blk.new w [.slice A ns.length cap] 24).alloc _).alloc _).alloc _
  have HSW : Hid (Blk W (w.heap.size + 1) 27 [.int .i64 s.id, .slice As s.cols.length cs, .int .i64 s.next]) := by rw [hW]; exact ((Blk.new_at (by simp) [.int .i64 s.id, .slice As s.cols.length cs, .int .i64 s.next] 27).alloc _).alloc _
  have HTW : Hid (Blk W (w.heap.size + 2) 66 [.slice At_ sts.length ct]) := by rw [hW]; exact (Blk.new_at (by simp) [.slice At_ sts.length ct] 66).alloc _
  have HRW : Hid (Blk W (w.heap.size + 3) 3 [.int .i64 rows]) := by rw [hW]; exact Blk.new_at (by simp) [.int .i64 rows] 3
  have HW := hide hW
  have hzW := SW.size
  clear hW
  by_cases hc : checkE ns s = 0
  · have CK := hide hc
    rw [hc] at pc
    have PC := hide pc
    clear pc hc
    have CA := hide (fun w' [Fut W w'] [Fut w2 w'] => containsFuncSta_any 51 #[.pointer (some ⟨w.heap.size + 3, 0, none⟩)] (outOf rows) At_ ct sts w' htl ht (fun args w1 => by kernel_rfl) (fun c _ w'' => by intro hF; have fW : Fut W w'' := Fut.tr (b := w') inferInstance inferInstance; exact pstats1_any (w0 := W) (w.heap.size + 3) rows c w'' HRW.out))
    by_cases h0 : rows < 0
    · have hE : Hid (T = (false, 1800)) := by show _ = _; rw [← HT.out, statsR, CK.out, if_neg (by simp), if_pos (.inl h0)]
      go_enter Tryd.func30, Tryd.ntmps30
      go_wp2_with (refine (PC.out _).mono ?_; rintro e w3 ⟨rfl, hs3⟩; rw [← HW.out] at hs3; have r0 := At.z1 (HRW.out.fut (w' := w3)).at0; have lr := (HRW.out.fut (w' := w3)).lt)
      go_ret2
      exact ⟨by rw [hE.out]; rfl, Step.of⟩
    · by_cases h1 : 4096 < rows
      · have hE : Hid (T = (false, 1800)) := by show _ = _; rw [← HT.out, statsR, CK.out, if_neg (by simp), if_pos (.inr (.inl h1))]
        go_enter Tryd.func30, Tryd.ntmps30
        go_wp2_with (refine (PC.out _).mono ?_; rintro e w3 ⟨rfl, hs3⟩; rw [← HW.out] at hs3; have r0 := At.z1 (HRW.out.fut (w' := w3)).at0; have lr := (HRW.out.fut (w' := w3)).lt)
        go_ret2
        exact ⟨by rw [hE.out]; rfl, Step.of⟩
      · cases hq : sts.any (outOf rows) with
        | true =>
          have hE : Hid (T = (false, 1800)) := by show _ = _; rw [← HT.out, statsR, CK.out, if_neg (by simp), if_pos (.inr (.inr hq))]
          rw [hq] at CA
          clear hq
          go_enter Tryd.func30, Tryd.ntmps30
          go_wp2_with (first | (go_at_call 35; refine (PC.out _).mono ?_; rintro e w3 ⟨rfl, hs3⟩; rw [← HW.out] at hs3; have r0 := At.z1 (HRW.out.fut (w' := w3)).at0; have lr := (HRW.out.fut (w' := w3)).lt; have t0 := At.z1 (HTW.out.fut (w' := w3)).at0; have lt_ := (HTW.out.fut (w' := w3)).lt) | (go_at_call 50; refine (CA.out _).mono ?_; rintro e w4 ⟨rfl, hs4⟩))
          go_ret2
          exact ⟨by rw [hE.out]; rfl, Step.of⟩
        | false =>
          have HQ : Hid (¬ (rows < 0 ∨ 4096 < rows ∨ sts.any (outOf rows) = true)) := by show ¬ _; rw [hq]; simp; omega
          rw [hq] at CA
          clear hq
          by_cases hz : rows = 0
          · have hE : Hid (T = (false, 0)) := by show _ = _; rw [← HT.out, statsR, CK.out, if_neg (by simp), if_neg HQ.out, if_pos hz]
            have ez : (rows == 0) = true := by simpa using hz
            clear hz
            go_enter Tryd.func30, Tryd.ntmps30
            go_wp2_with (first | (go_at_call 35; refine (PC.out _).mono ?_; rintro e w3 ⟨rfl, hs3⟩; rw [← HW.out] at hs3; have r0 := At.z1 (HRW.out.fut (w' := w3)).at0; have lr := (HRW.out.fut (w' := w3)).lt; have t0 := At.z1 (HTW.out.fut (w' := w3)).at0; have lt_ := (HTW.out.fut (w' := w3)).lt) | (go_at_call 50; refine (CA.out _).mono ?_; rintro e w4 ⟨rfl, hs4⟩; clear r0 lr t0 lt_; have r0 := At.z1 (HRW.out.fut (w' := w4)).at0; have lr := (HRW.out.fut (w' := w4)).lt))
            go_ret2
            exact ⟨by rw [hE.out]; rfl, Step.of⟩
          · have hE : Hid (T = (walkB (leafStat s sts rows) ns, 0)) := by show _ = _; rw [← HT.out, statsR, CK.out, if_neg (by simp), if_neg HQ.out, if_neg hz]
            have ez : (rows == 0) = false := by simpa using hz
            clear hz
            rw [hE.out]
            clear hE
            have WK := hide (fun w' [Fut W w'] [Fut w0 w'] [Fut w1 w'] [Fut w2 w'] => pwalk_any (w0 := w0) w.heap.size ns A cap s 53 #[.pointer (some ⟨w.heap.size + 1, 0, none⟩), .pointer (some ⟨w.heap.size + 2, 0, none⟩), .pointer (some ⟨w.heap.size + 3, 0, none⟩)] (leafStat s sts rows) w' hp (HPW.out.fut (w' := w')) CK.out (leafStat_lt s sts rows) (fun args w1 => by kernel_rfl)
              (fun n b o hn h12 hat hlb w'' => by
                intro hF
                obtain ⟨kk, hkk⟩ := List.getElem?_of_mem hn
                have f1'' : Fut w1 w'' := Fut.tr (b := w') inferInstance inferInstance
                have f2'' : Fut w2 w'' := Fut.tr (b := w') inferInstance inferInstance
                exact pstats2_any (w0 := w') (w1 := w1) (w2 := w2) b o (w.heap.size + 1) (w.heap.size + 2) (w.heap.size + 3) n s As cs sts At_ ct rows w'' hat hlb hs ht htl HSW.out.fut HTW.out.fut HRW.out.fut h12 (node_cmp CK.out hn h12) (node_col CK.out hkk h12)))
            obtain ⟨r, hr⟩ : ∃ r, walkB (leafStat s sts rows) ns = r := ⟨_, rfl⟩
            rw [hr] at WK
            rw [hr]
            clear hr
            go_enter Tryd.func30, Tryd.ntmps30
            go_wp2_with (first | (go_at_call 35; refine (PC.out _).mono ?_; rintro e w3 ⟨rfl, hs3⟩; rw [← HW.out] at hs3; have r0 := At.z1 (HRW.out.fut (w' := w3)).at0; have lr := (HRW.out.fut (w' := w3)).lt; have t0 := At.z1 (HTW.out.fut (w' := w3)).at0; have lt_ := (HTW.out.fut (w' := w3)).lt) | (go_at_call 50; refine (CA.out _).mono ?_; rintro e w4 ⟨rfl, hs4⟩; clear r0 lr t0 lt_; have r0 := At.z1 (HRW.out.fut (w' := w4)).at0; have lr := (HRW.out.fut (w' := w4)).lt) | (go_at_call 52; refine (WK.out _).mono ?_; rintro e w5 ⟨rfl, hs5⟩))
            go_ret2
            exact ⟨rfl, Step.of⟩
  · have hE : Hid (T = (false, checkE ns s)) := by show _ = _; rw [← HT.out, statsR, if_pos hc]
    have hcb : (checkE ns s != 0) = true := by simpa using hc
    have PC := hide pc
    clear pc hc
    go_enter Tryd.func30, Tryd.ntmps30
    go_wp2_with (refine (PC.out _).mono ?_; rintro e w3 ⟨rfl, hs3⟩; rw [← HW.out] at hs3)
    go_ret2
    exact ⟨by rw [hE.out]; rfl, Step.of⟩
end Go.Proofs.YtafgfehjdbomfaaDoor
