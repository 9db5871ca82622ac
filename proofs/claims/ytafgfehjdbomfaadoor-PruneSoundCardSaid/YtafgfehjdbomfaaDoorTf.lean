/-
  prune.Parts: may a file's row be taken, by its part.
-/
import Derived.Test.YtafgfehjdbomfaaDoorTd
import Derived.Test.YtafgfehjdbomfaaDoorTe
import Derived.Test.YtafgfehjdbomfaaDoorTa
namespace Go.Proofs.YtafgfehjdbomfaaDoor
open Go.RowKit

theorem pparts11_any {w0 : World} (gi : Nat) (id : Int) (c : Fld) (w : World) (hr : Blk w0 gi 3 [.int .i64 id]) [hf : Fut w0 w] :
    Calls Tryd.prog 66 #[.agg #[.int .i64 c.source, .int .i64 c.trans, .int .i64 c.param], .pointer (some ⟨gi, 0, none⟩)] w fun e w' => e = .returned (.bool (plainOf id c)) ∧ Step w w' := by
  have hR := (hr.fut (w' := w))
  have lr := hR.lt
  have r0 := At.z1 hR.at0
  clear hr hR
  have HO : Hid (plainOf id c = (c.source == id && c.trans == 0)) := hide rfl
  rw [HO.out]
  clear HO
  cases e1 : (c.source == id)
  all_goals
    go_enter Tryd.func66, Tryd.ntmps66
    go_wp2_with fail
    go_ret
    exact ⟨ret_bool (by simp), Step.of⟩

theorem pof_d2 (w : World) (b : Nat) (hb : b = w.heap.size) : Calls Tryd.prog 58 #[.slice (some ⟨b, 0, none⟩) 2 2] (w.alloc (.cells #[.int .i64 1, .int .i64 0] 3)) fun e w' => e = .returned (.int .u64 3) ∧ w.alloc (.cells #[.int .i64 1, .int .i64 0] 3) = w' := by
  subst hb
  exact pset_any [1, 0] _ 2 _ (SlAt.of_blk1 (l := natCells [1, 0]) (Blk.new w [.int .i64 1, .int .i64 0] 3) rfl (by intro x hx; simp [natCells] at hx; rcases hx with rfl | rfl <;> rfl)) (by simp) (by simp)
theorem pof_d3 (w : World) (b : Nat) (hb : b = w.heap.size) : Calls Tryd.prog 58 #[.slice (some ⟨b, 0, none⟩) 3 3] (w.alloc (.cells #[.int .i64 0, .int .i64 1, .int .i64 2] 3)) fun e w' => e = .returned (.int .u64 7) ∧ w.alloc (.cells #[.int .i64 0, .int .i64 1, .int .i64 2] 3) = w' := by
  subst hb
  exact pset_any [0, 1, 2] _ 3 _ (SlAt.of_blk1 (l := natCells [0, 1, 2]) (Blk.new w [.int .i64 0, .int .i64 1, .int .i64 2] 3) rfl (by intro x hx; simp [natCells] at hx; rcases hx with rfl | rfl | rfl <;> rfl)) (by simp) (by simp)

set_option maxRecDepth 100000 in
set_option maxHeartbeats 8000000 in
theorem pparts1_any {w0 w1 w2 w3 : World} (b o gs gf gp : Nat) (n : Nod) (s : Sch) (As : Option Addr) (cs : Nat) (sid : Int) (fs : List Fld) (Af : Option Addr) (cf : Nat) (part : List Val) (Av : Option Addr) (cv : Nat) (w : World)
    (hn : At w0 b o n.cells) (hb : b < w0.heap.size) (hs : SchIn w1 s As cs) (hfs : FsIn w2 fs Af cf) (hv : SlAt w3 w3.heap.size 4 Av (part.map Val.cells)) (hpl : part.length = fs.length)
    (hbs : Blk w0 gs 27 [.int .i64 s.id, .slice As s.cols.length cs, .int .i64 s.next]) (hbf : Blk w0 gf 65 [.int .i64 sid, .slice Af fs.length cf]) (hbp : Blk w0 gp 52 [.slice Av part.length cv])
    [f0 : Fut w0 w] [f1 : Fut w1 w] [f2 : Fut w2 w] [f3 : Fut w3 w] (h12 : n.kind = 1 ∨ n.kind = 2) (hcol : ∃ j : Nat, idx (named n.col) s.cols = (j : Int) ∧ j < s.cols.length ∧ s.cols.findIdx (named n.col) = j) :
    Calls Tryd.prog 64 #[.pointer (some ⟨b, o, none⟩), .pointer (some ⟨gs, 0, none⟩), .pointer (some ⟨gf, 0, none⟩), .pointer (some ⟨gp, 0, none⟩)] w fun e w' => e = .returned (.int .u64 ((leafPart s fs part n : Nat) : Int)) ∧ Step w w' := by
  have z0 := f0.below.size; have z1 := f1.below.size; have z2 := f2.below.size; have z3_ := f3.below.size
  obtain ⟨R, hR⟩ : ∃ R, leafPart s fs part n = R := ⟨_, rfl⟩
  have HRR := hide hR
  rw [hR]
  clear hR
  obtain ⟨W, hW⟩ : ∃ W : World, W = w := ⟨_, rfl⟩
  rw [← hW]
  have f0 : Fut w0 W := by rw [hW]; exact f0
  have f1 : Fut w1 W := by rw [hW]; exact f1
  have f2 : Fut w2 W := by rw [hW]; exact f2
  have f3 : Fut w3 W := by rw [hW]; exact f3
  rw [← hW] at z0 z1 z2 z3_
  clear hW
  have HN := hide hn; have HBS := hide hbs; have HBF := hide hbf; have HBP := hide hbp; have HK := hide h12; have HPL := hide hpl
  have hplI : (part.length : Int) = (fs.length : Int) := by omega
  have HPLI := hide hplI
  clear hn hbs hbf hbp h12 hpl hplI
  have hls := hs.len; have hlf := hfs.len
  obtain ⟨j, hi, hj, hfj⟩ := hcol
  obtain ⟨bc, oc, rfl, hbc, hcc⟩ := hs.at_.elem (w' := W) inferInstance (k := j) (by simpa using hj)
  obtain ⟨c, hc⟩ : ∃ c, s.cols[j]? = some c := ⟨_, List.getElem?_eq_getElem hj⟩
  obtain ⟨c0, c1, c2⟩ := At.l3 (hcc j c.cells (by simp [hc]))
  have hlc : bc < W.heap.size := by omega
  obtain ⟨id, hid⟩ : ∃ id, c.id = id := ⟨_, rfl⟩
  rw [hid] at c0
  have HID : Hid (nodId s n = id) := by show _ = _; rw [nodId, hfj, List.getD_eq_getElem?_getD, hc]; exact hid
  have fd := fun w' [Fut w1 w'] => pfind s (some ⟨bc, oc, none⟩) cs n.col w' hs
  unfold Sch.val at fd
  rw [hi] at fd
  have FD := hide fd
  clear fd hi hfj hc hcc hid
  have hj0 : (0 : Int) ≤ (j : Int) := by omega
  have hj1 : (j : Int) < (s.cols.length : Int) := by omega
  obtain ⟨n0, n1, n2, n3, n4, n5, n6, n7, n8⟩ := At.l9 (HN.out.below (fut w0 W) hb)
  have hlb : b < W.heap.size := by omega
  obtain ⟨q0, q1, q2⟩ := At.z3 (HBS.out.fut (w' := W)).at0; have lq := (HBS.out.fut (w' := W)).lt
  go_enter Tryd.func64, Tryd.ntmps64
  go_upto_region 1 with (fail)
  go_cut [6] from 8 to 18 (fun x wx => ∃ gi : Nat, x = .pointer (some ⟨gi, 0, none⟩) ∧ Blk wx gi 3 [.int .i64 id] ∧ Step W wx)
  case first =>
    refine wp_region_held_drew (S := (fun w' => Step W w' ∧ (∀ b o, b < W.heap.size → w'.cell? ⟨b, o, none⟩ = W.cell? ⟨b, o, none⟩))) (by kernel_rfl) (by (try dsimp only); (first | exact ⟨hS1, hS2⟩ | exact ⟨Step.of, (bcell (fut _ _)).1⟩)) (fun hHeld => ?_)
    refine wpAnyH_take (i := 0) (oi := ⟨some 8, _, _, _, _, _⟩) (v := ?_) rfl (by kernel_rfl) (by kernel_rfl) (by kernel_rfl) (fun _ _ _ h => h) (Or.inl ⟨by rfl, ?_⟩) (by assumption) ?_
    rotate_left
    · ((intro w hSw); (try dsimp only at hSw); go_simp; (try with_reducible rfl))
    (try simp only [Act.put, List.setIfInBounds_toArray, List.set_cons_zero, List.set_cons_succ])
    refine wpAnyH_take (i := 1) (oi := ⟨some 9, _, _, _, _, _⟩) (v := ?_) rfl (by kernel_rfl) (by kernel_rfl) (by kernel_rfl) (fun _ _ _ h => h) (Or.inl ⟨by rfl, ?_⟩) (by assumption) ?_
    rotate_left
    · ((intro w hSw); (try dsimp only at hSw); go_simp; (try with_reducible rfl))
    (try simp only [Act.put, List.setIfInBounds_toArray, List.set_cons_zero, List.set_cons_succ])
    refine wpAnyH_take (i := 2) (oi := ⟨some 10, _, _, _, _, _⟩) (v := ?_) rfl (by kernel_rfl) (by kernel_rfl) (by kernel_rfl) (fun _ _ _ h => h) (Or.inl ⟨by rfl, ?_⟩) (by assumption) ?_
    rotate_left
    · ((intro w hSw); (try dsimp only at hSw); go_simp; (try with_reducible rfl))
    (try simp only [Act.put, List.setIfInBounds_toArray, List.set_cons_zero, List.set_cons_succ])
    refine wpAnyH_take (i := 3) (oi := ⟨some 11, _, _, _, _, _⟩) (v := ?_) rfl (by kernel_rfl) (by kernel_rfl) (by kernel_rfl) (fun _ _ _ h => h) (Or.inl ⟨by rfl, ?_⟩) (by assumption) ?_
    rotate_left
    · ((intro w hSw); (try dsimp only at hSw); go_simp; (try with_reducible rfl))
    (try simp only [Act.put, List.setIfInBounds_toArray, List.set_cons_zero, List.set_cons_succ])
    refine wpAnyH_take (i := 4) (oi := ⟨some 12, _, _, _, _, _⟩) (v := ?_) rfl (by kernel_rfl) (by kernel_rfl) (by kernel_rfl) (fun _ _ _ h => h) (Or.inl ⟨by rfl, ?_⟩) (by assumption) ?_
    rotate_left
    · ((intro w hSw); (try dsimp only at hSw); go_simp; (try with_reducible rfl))
    (try simp only [Act.put, List.setIfInBounds_toArray, List.set_cons_zero, List.set_cons_succ])
    refine wpAnyH_take (i := 5) (oi := ⟨some 13, _, _, _, _, _⟩) (v := ?_) rfl (by kernel_rfl) (by kernel_rfl) (by kernel_rfl) (fun _ _ _ h => h) (Or.inl ⟨by rfl, ?_⟩) (by assumption) ?_
    rotate_left
    · ((intro w hSw); (try dsimp only at hSw); go_simp; (try with_reducible rfl))
    (try simp only [Act.put, List.setIfInBounds_toArray, List.set_cons_zero, List.set_cons_succ])
    refine wpAnyH_take (i := 6) (oi := ⟨some 14, _, _, _, _, _⟩) (v := ?_) rfl (by kernel_rfl) (by kernel_rfl) (by kernel_rfl) (fun _ _ _ h => h) (Or.inl ⟨by rfl, ?_⟩) (by assumption) ?_
    rotate_left
    · ((intro w hSw); (try dsimp only at hSw); go_simp; (try with_reducible rfl))
    (try simp only [Act.put, List.setIfInBounds_toArray, List.set_cons_zero, List.set_cons_succ])
    refine wpAnyH_ready (rs := [7, 11]) (by kernel_rfl) (by simp) ?_
    refine AllReadyH.cons (o := ⟨some 15, _, _, _, _, _⟩) rfl (fun K hK => ?_) (AllReadyH.cons (o := ⟨some 6, _, _, _, _, _⟩) rfl (fun K hK => ?_) AllReadyH.nil)
    · obtain ⟨hS1, hS2⟩ := hHeld
      go_simp
      (go_at_call 54; (with_reducible refine (FD.out _).mono ?_); intro e w3 hr3; obtain ⟨rfl, hq3⟩ := hr3; have z3 := hq3.size; skip)
      refine hK.out _ _ (by (try dsimp only); (first | exact ⟨hS1, hS2⟩ | exact ⟨Step.of, (bcell (fut _ _)).1⟩)) (fun hHeld => ?_)
      clear hK K
      (try simp only [Act.put, List.setIfInBounds_toArray, List.set_cons_zero, List.set_cons_succ])
      refine wpAnyH_take (i := 8) (oi := ⟨some 16, _, _, _, _, _⟩) (v := ?_) rfl (by kernel_rfl) (by kernel_rfl) (by kernel_rfl) (fun _ _ _ h => h) (Or.inl ⟨by rfl, ?_⟩) (by assumption) ?_
      rotate_left
      · ((intro w hSw); (try dsimp only at hSw); go_simp; (try with_reducible rfl))
      (try simp only [Act.put, List.setIfInBounds_toArray, List.set_cons_zero, List.set_cons_succ])
      refine wpAnyH_take (i := 9) (oi := ⟨some 17, _, _, _, _, _⟩) (v := ?_) rfl (by kernel_rfl) (by kernel_rfl) (by kernel_rfl) (fun _ _ _ h => h) (Or.inl ⟨by rfl, ?_⟩) (by assumption) ?_
      rotate_left
      · ((intro w hSw); (try dsimp only at hSw); go_simp; (try with_reducible rfl))
      (try simp only [Act.put, List.setIfInBounds_toArray, List.set_cons_zero, List.set_cons_succ])
      refine wpAnyH_take (i := 10) (oi := ⟨some 18, _, _, _, _, _⟩) (v := ?_) rfl (by kernel_rfl) (by kernel_rfl) (by kernel_rfl) (fun _ _ _ h => h) (Or.inl ⟨by rfl, ?_⟩) (by assumption) ?_
      rotate_left
      · ((intro w hSw); (try dsimp only at hSw); go_simp; (try with_reducible rfl))
      (try simp only [Act.put, List.setIfInBounds_toArray, List.set_cons_zero, List.set_cons_succ])
      refine wpAnyH_ready (rs := [11]) (by kernel_rfl) (by simp) ?_
      refine AllReadyH.cons (o := ⟨some 6, _, _, _, _, _⟩) rfl (fun K hK => ?_) AllReadyH.nil
      go_simp
      refine hK.out _ _ (by (try dsimp only); (exact ⟨Step.of, (bcell (fut _ _)).1⟩)) (fun hHeld => ?_)
      clear hK K
      (try simp only [Act.put, List.setIfInBounds_toArray, List.set_cons_zero, List.set_cons_succ])
      refine wpAnyH_ready (rs := [12]) (by kernel_rfl) (by simp) ?_
      refine AllReadyH.cons (o := ⟨none, _, _, _, _, _⟩) rfl (fun K hK => ?_) AllReadyH.nil
      go_simp
      refine hK.out _ _ (by (try dsimp only); (exact ⟨Step.of, (bcell (fut _ _)).1⟩)) (fun hHeld => ?_)
      clear hK K
      (try simp only [Act.put, List.setIfInBounds_toArray, List.set_cons_zero, List.set_cons_succ])
      refine wpAnyH_done (by kernel_rfl) ?_ _
      go_wp2_with fail
      go_meet
      case rel => exact ⟨w3.heap.size, rfl, (Blk.new w3 [.int .i64 id] 3), Step.of⟩
    · go_simp
      refine hK.out _ _ (by (try dsimp only); (exact ⟨Step.of, (bcell (fut _ _)).1⟩)) (fun hHeld => ?_)
      clear hK K
      (try simp only [Act.put, List.setIfInBounds_toArray, List.set_cons_zero, List.set_cons_succ])
      refine wpAnyH_ready (rs := [7]) (by kernel_rfl) (by simp) ?_
      refine AllReadyH.cons (o := ⟨some 15, _, _, _, _, _⟩) rfl (fun K hK => ?_) AllReadyH.nil
      obtain ⟨hS1, hS2⟩ := hHeld
      go_simp
      (go_at_call 54; (with_reducible refine (FD.out _).mono ?_); intro e w3 hr3; obtain ⟨rfl, hq3⟩ := hr3; have z3 := hq3.size; have hx_ := (Blk.new W [.int .i64 0] 3).fut (w' := w3); have fx := hx_.free; have lx := hx_.lt; have x0 := At.z1 hx_.at0)
      refine hK.out _ _ (by (try dsimp only); (first | exact ⟨hS1, hS2⟩ | exact ⟨Step.of, (bcell (fut _ _)).1⟩)) (fun hHeld => ?_)
      clear hK K
      (try simp only [Act.put, List.setIfInBounds_toArray, List.set_cons_zero, List.set_cons_succ])
      refine wpAnyH_take (i := 8) (oi := ⟨some 16, _, _, _, _, _⟩) (v := ?_) rfl (by kernel_rfl) (by kernel_rfl) (by kernel_rfl) (fun _ _ _ h => h) (Or.inl ⟨by rfl, ?_⟩) (by assumption) ?_
      rotate_left
      · ((intro w hSw); (try dsimp only at hSw); go_simp; (try with_reducible rfl))
      (try simp only [Act.put, List.setIfInBounds_toArray, List.set_cons_zero, List.set_cons_succ])
      refine wpAnyH_take (i := 9) (oi := ⟨some 17, _, _, _, _, _⟩) (v := ?_) rfl (by kernel_rfl) (by kernel_rfl) (by kernel_rfl) (fun _ _ _ h => h) (Or.inl ⟨by rfl, ?_⟩) (by assumption) ?_
      rotate_left
      · ((intro w hSw); (try dsimp only at hSw); go_simp; (try with_reducible rfl))
      (try simp only [Act.put, List.setIfInBounds_toArray, List.set_cons_zero, List.set_cons_succ])
      refine wpAnyH_take (i := 10) (oi := ⟨some 18, _, _, _, _, _⟩) (v := ?_) rfl (by kernel_rfl) (by kernel_rfl) (by kernel_rfl) (fun _ _ _ h => h) (Or.inl ⟨by rfl, ?_⟩) (by assumption) ?_
      rotate_left
      · ((intro w hSw); (try dsimp only at hSw); go_simp; (try with_reducible rfl))
      (try simp only [Act.put, List.setIfInBounds_toArray, List.set_cons_zero, List.set_cons_succ])
      refine wpAnyH_ready (rs := [12]) (by kernel_rfl) (by simp) ?_
      refine AllReadyH.cons (o := ⟨none, _, _, _, _, _⟩) rfl (fun K hK => ?_) AllReadyH.nil
      go_simp
      refine hK.out _ _ (by (try dsimp only); (exact ⟨Step.of, (bcell (fut _ _)).1⟩)) (fun hHeld => ?_)
      clear hK K
      (try simp only [Act.put, List.setIfInBounds_toArray, List.set_cons_zero, List.set_cons_succ])
      refine wpAnyH_done (by kernel_rfl) ?_ _
      go_wp2_with fail
      go_meet
      case rel => exact ⟨W.heap.size, rfl, (hx_.put1 (.int .i64 id)), Step.of⟩
  case rest =>
    obtain ⟨gi, rfl, hgi, hsX⟩ := hcut
    obtain ⟨X, rfl⟩ : ∃ x : World, x = wc := ⟨_, rfl⟩
    clear n0 n1 n2 n3 n4 n5 n6 n7 n8 hlb q0 q1 q2 lq c0 c1 c2 hlc FD hj0 hj1 hj hbc
    have zX := hsX.size
    have lgi := hgi.lt
    have HGI := hide hgi
    have g0 := At.z1 hgi.at0
    clear hgi
    obtain ⟨t0, t1⟩ := At.z2 (HBF.out.fut (w' := X)).at0; have lt_ := (HBF.out.fut (w' := X)).lt
    have r0 := At.z1 (HBP.out.fut (w' := X)).at0; have lr := (HBP.out.fut (w' := X)).lt
    obtain ⟨n0, n1, n2, n3, n4, n5, n6, n7, n8⟩ := At.l9 (HN.out.below (fut w0 X) hb)
    have hlb : b < X.heap.size := by omega
    have IX := indexFuncFld_any 66 #[.pointer (some ⟨gi, 0, none⟩)] (plainOf id) Af cf fs X hlf hfs.at_ (fun args w1 => by kernel_rfl) (fun c _ w' => pparts11_any gi id c w' HGI.out)
    rcases idx_cases (plainOf id) fs with hi | ⟨k, hi, hk⟩
    · have HR : Hid (leafPart s fs part n = if n.kind = 2 then 3 else 7) := by show _ = _; exact leafPart_miss (by rw [HID.out]; exact hi)
      rw [hi] at IX
      have IXH := hide IX
      clear IX hi
      by_cases hk2 : n.kind = 2
      · obtain rfl : R = 3 := by rw [← HRR.out, HR.out, if_pos hk2]
        have e2 : (n.kind == 2) = true := by simpa using hk2
        clear hk2
        go_wp2_with (first | (go_at_call 65; with_reducible refine IXH.out.mono ?_; rintro e w4 ⟨rfl, hs4⟩; clear g0 lgi t0 t1 lt_ r0 lr n0 n1 n2 n3 n4 n5 n6 n7 n8 hlb; (obtain ⟨n0, n1, n2, n3, n4, n5, n6, n7, n8⟩ := At.l9 (HN.out.below (fut w0 w4) hb)); have z4 := hs4.size; have hlb : b < w4.heap.size := by omega) | (go_at_call 58; with_reducible refine (pof_d2 _ _ (by first | rfl | simp)).mono ?_; rintro e w' ⟨rfl, rfl⟩))
        go_ret
        exact ⟨rfl, Step.of⟩
      · obtain rfl : R = 7 := by rw [← HRR.out, HR.out, if_neg hk2]
        have e2 : (n.kind == 2) = false := by simpa using hk2
        clear hk2
        go_wp2_with (first | (go_at_call 65; with_reducible refine IXH.out.mono ?_; rintro e w4 ⟨rfl, hs4⟩; clear g0 lgi t0 t1 lt_ r0 lr n0 n1 n2 n3 n4 n5 n6 n7 n8 hlb; (obtain ⟨n0, n1, n2, n3, n4, n5, n6, n7, n8⟩ := At.l9 (HN.out.below (fut w0 w4) hb)); have z4 := hs4.size; have hlb : b < w4.heap.size := by omega) | (go_at_call 58; with_reducible refine (pof_d3 _ _ (by first | rfl | simp)).mono ?_; rintro e w' ⟨rfl, rfl⟩))
        go_ret
        exact ⟨rfl, Step.of⟩
    · have hkp : k < part.length := by have := HPL.out; omega
      obtain ⟨v, hvk⟩ : ∃ v, part[k]? = some v := ⟨_, List.getElem?_eq_getElem hkp⟩
      have HR : Hid (leafPart s fs part n = ofT [(leafT n v).toNat]) := by show _ = _; exact leafPart_hit (by rw [HID.out]; exact hi) hvk
      rw [hi] at IX
      have IXH := hide IX
      clear IX hi
      have HT := tr_nat (leafT_tr n v)
      have lf := fun (X : World) (hh : At X b o n.cells) (hl : b < X.heap.size) w' [Fut X w'] => pleaf_any b o n v w' hh hl HK.out
      rw [HT.1] at lf
      have ht3 := HT.2
      clear HT
      obtain ⟨t, ht⟩ : ∃ t, (leafT n v).toNat = t := ⟨_, rfl⟩
      rw [ht] at lf ht3
      obtain rfl : R = ofT [t] := by rw [← HRR.out, HR.out, ht]
      clear ht HR HRR
      unfold Val.val at lf
      have HT3 := hide ht3
      have LF := hide lf
      have HV := hide hvk
      clear lf ht3 hvk
      have hk0 : (0 : Int) ≤ (k : Int) := by omega
      have hk1 : (k : Int) < (part.length : Int) := by omega
      go_upto_region 4 with (go_at_call 65; with_reducible refine IXH.out.mono ?_; rintro e w4 ⟨rfl, hs4⟩)
      clear g0 lgi t0 t1 lt_ r0 lr n0 n1 n2 n3 n4 n5 n6 n7 n8 hlb IXH
      have z4 := hs4.size
      have hlb : b < w4.heap.size := by omega
      have r0 := At.z1 (HBP.out.fut (w' := w4)).at0; have lr := (HBP.out.fut (w' := w4)).lt
      obtain ⟨bv, ov, rfl, hbv, hcv⟩ := hv.elem (w' := w4) inferInstance (k := k) (by simpa using hkp)
      obtain ⟨s0, s1, s2, s3⟩ := At.l4 (hcv k v.cells (by simp [HV.out]))
      have hlv : bv < w4.heap.size := by omega
      clear hcv hbv
      have LF2 := hide (LF.out w4 (HN.out.below (fut w0 w4) hb) hlb)
      clear LF
      go_wp2_with (go_at_call 67; with_reducible refine (LF2.out _).mono ?_; rintro e w5 ⟨rfl, hs5⟩)
      refine (pof_one t _ _ (Blk.new w5 [.int .i64 (t : Int)] 3) HT3.out).mono ?_
      rintro e w' ⟨rfl, rfl⟩
      go_wp2_with fail
      go_ret
      exact ⟨rfl, Step.of⟩

set_option maxRecDepth 100000 in
set_option maxHeartbeats 8000000 in
theorem pparts_any {w0 w1 w2 w3 : World} (ns : List Nod) (A : Option Addr) (cap : Nat) (s : Sch) (As : Option Addr) (cs : Nat) (sid : Int) (fs : List Fld) (Af : Option Addr) (cf : Nat) (part : List Val) (Av : Option Addr) (cv : Nat) (w : World) (hp : PrIn w0 ns A cap) (hs : SchIn w1 s As cs)
    (hfs : FsIn w2 fs Af cf) (hv : SlAt w3 w3.heap.size 4 Av (part.map Val.cells)) [f0 : Fut w0 w] [f1 : Fut w1 w] [f2 : Fut w2 w] [f3 : Fut w3 w] :
    Calls Tryd.prog 32 #[.agg #[.slice A ns.length cap], s.val As cs, .agg #[.int .i64 sid, .slice Af fs.length cf], .slice Av part.length cv] w fun e w' => e = .returned (.tuple #[.bool (partsR ns s sid fs part).1, .int .i64 (partsR ns s sid fs part).2]) ∧ Step w w' := by
  obtain ⟨T, hT⟩ : ∃ T, partsR ns s sid fs part = T := ⟨_, rfl⟩
  have HT := hide hT
  rw [hT]
  clear hT
  have z0 := f0.below.size; have z1 := f1.below.size; have z2 := f2.below.size; have z3_ := f3.below.size
  have hlf := hfs.len
  have pc := fun w' [Fut w0 w'] [Fut w1 w'] => pcheck_any ns A cap s As cs w' hp hs
  have ps := fun w' [Fut w2 w'] [Fut w1 w'] => pspec_any sid fs Af cf s As cs w' hfs hs
  unfold Sch.val at pc ps ⊢
  obtain ⟨W, hW⟩ : ∃ W, W = (((w.alloc (.cells #[.slice A ns.length cap] 24)).alloc (.cells #[.int .i64 s.id, .slice As s.cols.length cs, .int .i64 s.next] 27)).alloc (.cells #[.int .i64 sid, .slice Af fs.length cf] 65)).alloc (.cells #[.slice Av part.length cv] 52) := ⟨_, rfl⟩
  have SW : Step w W := by rw [hW]; exact Step.of
  have HPW : Hid (Blk W w.heap.size 24 [.slice A ns.length cap]) := by rw [hW]; exact (((Blk.new w [.slice A ns.length cap] 24).alloc _).alloc _).alloc _
  have HSW : Hid (Blk W (w.heap.size + 1) 27 [.int .i64 s.id, .slice As s.cols.length cs, .int .i64 s.next]) := by rw [hW]; exact ((Blk.new_at (by simp) [.int .i64 s.id, .slice As s.cols.length cs, .int .i64 s.next] 27).alloc _).alloc _
  have HFW : Hid (Blk W (w.heap.size + 2) 65 [.int .i64 sid, .slice Af fs.length cf]) := by rw [hW]; exact (Blk.new_at (by simp) [.int .i64 sid, .slice Af fs.length cf] 65).alloc _
  have HVW : Hid (Blk W (w.heap.size + 3) 52 [.slice Av part.length cv]) := by rw [hW]; exact Blk.new_at (by simp) [.slice Av part.length cv] 52
  have HW := hide hW
  have hzW := SW.size
  clear hW
  by_cases hc : checkE ns s = 0
  · have CK := hide hc
    rw [hc] at pc
    have PC := hide pc
    clear pc hc
    cases hq : specB sid fs s with
    | false =>
      have hE : Hid (T = (false, 1800)) := by show _ = _; rw [← HT.out, partsR, CK.out, if_neg (by simp), if_neg (by simp [hq])]
      rw [hq] at ps
      have PS := hide ps
      clear ps hq
      go_enter Tryd.func32, Tryd.ntmps32
      go_wp2_with (first | (go_at_call 35; refine (PC.out _).mono ?_; rintro e w3 ⟨rfl, hs3⟩; rw [← HW.out] at hs3; (obtain ⟨t0, t1⟩ := At.z2 (HFW.out.fut (w' := w3)).at0); have lt_ := (HFW.out.fut (w' := w3)).lt; (obtain ⟨q0, q1, q2⟩ := At.z3 (HSW.out.fut (w' := w3)).at0); have lq := (HSW.out.fut (w' := w3)).lt) | (go_at_call 63; refine (PS.out _).mono ?_; rintro e w4 ⟨rfl, hs4⟩; clear t0 t1 lt_ q0 q1 q2 lq; (obtain ⟨t0, t1⟩ := At.z2 (HFW.out.fut (w' := w4)).at0); have lt_ := (HFW.out.fut (w' := w4)).lt; have r0 := At.z1 (HVW.out.fut (w' := w4)).at0; have lr := (HVW.out.fut (w' := w4)).lt))
      go_ret2
      exact ⟨by rw [hE.out]; rfl, Step.of⟩
    | true =>
      rw [hq] at ps
      have PS := hide ps
      have HQ := hide hq
      clear ps hq
      by_cases hl : part.length = fs.length
      · have hE : Hid (T = (walkB (leafPart s fs part) ns, 0)) := by show _ = _; rw [← HT.out, partsR, CK.out, if_neg (by simp), if_pos ⟨HQ.out, hl⟩]
        have el : ((part.length : Int) != (fs.length : Int)) = false := by simp; omega
        have HL := hide hl
        clear hl
        rw [hE.out]
        clear hE
        have WK := hide (fun w' [Fut W w'] [Fut w0 w'] [Fut w1 w'] [Fut w2 w'] [Fut w3 w'] => pwalk_any (w0 := w0) w.heap.size ns A cap s 64 #[.pointer (some ⟨w.heap.size + 1, 0, none⟩), .pointer (some ⟨w.heap.size + 2, 0, none⟩), .pointer (some ⟨w.heap.size + 3, 0, none⟩)] (leafPart s fs part) w' hp (HPW.out.fut (w' := w')) CK.out (leafPart_lt s fs part) (fun args w1 => by kernel_rfl)
          (fun n b o hn h12 hat hlb w'' => by
            intro hF
            obtain ⟨kk, hkk⟩ := List.getElem?_of_mem hn
            have f1'' : Fut w1 w'' := Fut.tr (b := w') inferInstance inferInstance
            have f2'' : Fut w2 w'' := Fut.tr (b := w') inferInstance inferInstance
            have f3'' : Fut w3 w'' := Fut.tr (b := w') inferInstance inferInstance
            exact pparts1_any (w0 := w') b o (w.heap.size + 1) (w.heap.size + 2) (w.heap.size + 3) n s As cs sid fs Af cf part Av cv w'' hat hlb hs hfs hv HL.out HSW.out.fut HFW.out.fut HVW.out.fut h12 (node_col CK.out hkk h12)))
        obtain ⟨r, hr⟩ : ∃ r, walkB (leafPart s fs part) ns = r := ⟨_, rfl⟩
        rw [hr] at WK
        rw [hr]
        clear hr
        go_enter Tryd.func32, Tryd.ntmps32
        go_wp2_with (first | (go_at_call 35; refine (PC.out _).mono ?_; rintro e w3 ⟨rfl, hs3⟩; rw [← HW.out] at hs3; (obtain ⟨t0, t1⟩ := At.z2 (HFW.out.fut (w' := w3)).at0); have lt_ := (HFW.out.fut (w' := w3)).lt; (obtain ⟨q0, q1, q2⟩ := At.z3 (HSW.out.fut (w' := w3)).at0); have lq := (HSW.out.fut (w' := w3)).lt) | (go_at_call 63; refine (PS.out _).mono ?_; rintro e w4 ⟨rfl, hs4⟩; clear t0 t1 lt_ q0 q1 q2 lq; (obtain ⟨t0, t1⟩ := At.z2 (HFW.out.fut (w' := w4)).at0); have lt_ := (HFW.out.fut (w' := w4)).lt; have r0 := At.z1 (HVW.out.fut (w' := w4)).at0; have lr := (HVW.out.fut (w' := w4)).lt) | (go_at_call 52; refine (WK.out _).mono ?_; rintro e w5 ⟨rfl, hs5⟩))
        go_ret2
        exact ⟨rfl, Step.of⟩
      · have hE : Hid (T = (false, 1800)) := by show _ = _; rw [← HT.out, partsR, CK.out, if_neg (by simp), if_neg (by simp [hl])]
        have el : ((part.length : Int) != (fs.length : Int)) = true := by simp; omega
        clear hl
        go_enter Tryd.func32, Tryd.ntmps32
        go_wp2_with (first | (go_at_call 35; refine (PC.out _).mono ?_; rintro e w3 ⟨rfl, hs3⟩; rw [← HW.out] at hs3; (obtain ⟨t0, t1⟩ := At.z2 (HFW.out.fut (w' := w3)).at0); have lt_ := (HFW.out.fut (w' := w3)).lt; (obtain ⟨q0, q1, q2⟩ := At.z3 (HSW.out.fut (w' := w3)).at0); have lq := (HSW.out.fut (w' := w3)).lt) | (go_at_call 63; refine (PS.out _).mono ?_; rintro e w4 ⟨rfl, hs4⟩; clear t0 t1 lt_ q0 q1 q2 lq; (obtain ⟨t0, t1⟩ := At.z2 (HFW.out.fut (w' := w4)).at0); have lt_ := (HFW.out.fut (w' := w4)).lt; have r0 := At.z1 (HVW.out.fut (w' := w4)).at0; have lr := (HVW.out.fut (w' := w4)).lt))
        go_ret2
        exact ⟨by rw [hE.out]; rfl, Step.of⟩
  · have hE : Hid (T = (false, checkE ns s)) := by show _ = _; rw [← HT.out, partsR, if_pos hc]
    have hcb : (checkE ns s != 0) = true := by simpa using hc
    have PC := hide pc
    clear pc hc
    go_enter Tryd.func32, Tryd.ntmps32
    go_wp2_with (refine (PC.out _).mono ?_; rintro e w3 ⟨rfl, hs3⟩; rw [← HW.out] at hs3)
    go_ret2
    exact ⟨by rw [hE.out]; rfl, Step.of⟩
end Go.Proofs.YtafgfehjdbomfaaDoor
