/-
  The document's PruneStats.
-/
import Derived.Test.YtcgpfllkbflbhaaGreatDoorUb
import Derived.Test.YtcgpfllkbflbhaaGreatDoorUc
import Derived.Test.YtcgpfllkbflbhaaGreatDoorQb
import Derived.Laws.MakeOwn
namespace Go.Proofs.YtcgpfllkbflbhaaGreatDoor
open Go.RowKit

def preO (sts : List Sta) (rows : Int) (k : Nat) : Bool := (sts.take k).any (outOf rows)
/-- The first k leaves are laid. -/
structure Laid (ns : List Nod) (leaf : Nod → Nat) (L : List Int) (k : Nat) : Prop where
  at_ : ∀ (j : Nat) (n : Nod), j < k → ns[j]? = some n → n.kind = 1 ∨ n.kind = 2 → L[j]? = some ((leaf n : Nat) : Int)
theorem intCells_flat : ∀ L : List Int, (L.map fun v => Value.int .i64 v) = (intCells L).flatten
  | [] => rfl
  | x :: r => by
    have ih := intCells_flat r
    show Value.int .i64 x :: r.map (fun v => Value.int .i64 v) = Value.int .i64 x :: (intCells r).flatten
    rw [ih]
theorem node_cmp2 {ns : List Nod} {s : Sch} {n : Nod} (h : checkE ns s = 0) (hn : n ∈ ns) (h12 : n.kind = 1 ∨ n.kind = 2) : n.kind = 2 ∨ (0 ≤ n.cmp ∧ n.cmp ≤ 5) := by
  obtain ⟨h1, _, _⟩ := checkE_inv h
  obtain ⟨k, hk⟩ := List.getElem?_of_mem hn
  have hb := (predB_iff.1 h1).2 k n hk
  rcases h12 with h | h
  · unfold nodB at hb
    rw [if_neg (by omega), if_pos h] at hb
    simp only [Bool.and_eq_true, decide_eq_true_eq] at hb
    exact .inr ⟨hb.1.1.1, hb.1.1.2⟩
  · exact .inl h
theorem made_cells (z : Value) (n : Nat) : madeCells #[z] n = (List.replicate n z).toArray := by
  apply Array.ext
  · simp [size_madeCells]
  · intro i h1 h2
    simp [madeCells, Nat.mod_one]
/-- make([]int, n): numbers that are 0. -/
theorem made_ints (n : Nat) (hn : n ≤ 1000) : ∃ O : Obj, (∀ w : World, (Instr.makeSlice 72 (.int .i64 (n : Int)) (.int .i64 (n : Int))).run Tryz.prog w = .ok (.slice (some ⟨w.heap.size, 0, none⟩) n n) (w.alloc O)) ∧ ∀ w : World, Blk (w.alloc O) w.heap.size 3 (List.replicate n (.int .i64 0)) := by
  obtain ⟨ht, ⟨i, z, hi, hz, hs, hby, hzs⟩, _, _⟩ := eiInt
  have hz0 : z = .int .i64 0 := by
    have h : (Tryz.prog.info? 3).map (fun i => i.zero) = some (some (.int .i64 0)) := by kernel_rfl
    rw [hi] at h
    simp only [Option.map_some, Option.some.injEq] at h
    rw [hz] at h
    exact Option.some.inj h
  subst hz0
  refine ⟨.cells (List.replicate n (.int .i64 0)).toArray 3, fun w => ?_, fun w => Blk.new w _ _⟩
  have hr := run_make (P := Tryz.prog) w 72 3 i (.int .i64 0) ht hi hz .i64 .i64 n n (by omega) (Int.le_refl _) (by rw [hby]; omega) (by omega)
  rw [hs] at hr
  simp only [Int.toNat_natCast, Nat.mul_one] at hr
  rw [show (Value.int .i64 0).cells = #[.int .i64 0] from rfl, made_cells] at hr
  exact hr

set_option maxRecDepth 100000 in
set_option maxHeartbeats 16000000 in
theorem rstats_any {w0 w1 w2 : World} (ns : List Nod) (A : Option Addr) (cap : Nat) (s : Sch) (As : Option Addr) (cs : Nat) (sts : List Sta) (At_ : Option Addr) (ct : Nat) (rows : Int) (w : World) (hp : PrIn w0 ns A cap) (hs : SchIn w1 s As cs)
    (ht : SlAt w2 w2.heap.size 10 At_ (sts.map Sta.cells)) (htl : sts.length ≤ 4611686018427387904) (hss : ∀ t ∈ sts, t.mn.s.size ≤ 9223372036854775807 ∧ t.mx.s.size ≤ 9223372036854775807) [f0 : Fut w0 w] [f1 : Fut w1 w] [f2 : Fut w2 w] :
    Calls Tryz.prog 8 #[.agg #[.slice A ns.length cap], s.val As cs, .slice At_ sts.length ct, .int .i64 rows] w fun e w' => e = .returned (.tuple #[.bool (statsR ns s sts rows).1, .int .i64 (statsR ns s sts rows).2]) ∧ Step w w' := by
  obtain ⟨T, hT⟩ : ∃ T, statsR ns s sts rows = T := ⟨_, rfl⟩
  have HT := hide hT
  rw [hT]
  clear hT
  have z0 := f0.below.size; have z1 := f1.below.size; have z2 := f2.below.size
  have HSS := hide hss
  clear hss
  have pc := fun w' [Fut w0 w'] [Fut w1 w'] => rcheck_any ns A cap s As cs w' hp hs
  have fdk := fun (nm : ByteArray) w' [Fut w1 w'] => rfind_any s As cs nm w' hs
  unfold Sch.val at pc fdk ⊢
  have FDK := hide fdk
  clear fdk
  obtain ⟨W, hW⟩ : ∃ W, W = (w.alloc (.cells #[.slice A ns.length cap] 24)).alloc (.cells #[.int .i64 s.id, .slice As s.cols.length cs, .int .i64 s.next] 27) := ⟨_, rfl⟩
  have SW : Step w W := by rw [hW]; exact Step.of
  have HPW : Hid (Blk W w.heap.size 24 [.slice A ns.length cap]) := by rw [hW]; exact (Blk.new w [.slice A ns.length cap] 24).alloc _
  have HSW : Hid (Blk W (w.heap.size + 1) 27 [.int .i64 s.id, .slice As s.cols.length cs, .int .i64 s.next]) := by rw [hW]; exact Blk.new_at (by simp) [.int .i64 s.id, .slice As s.cols.length cs, .int .i64 s.next] 27
  have HW := hide hW
  have hzW := SW.size
  clear hW
  by_cases hc : checkE ns s = 0
  · have CK := hide hc
    rw [hc] at pc
    have PC := hide pc
    clear pc hc
    by_cases h0 : rows < 0
    · have hE : Hid (T = (false, 1800)) := by show _ = _; rw [← HT.out, statsR, CK.out, if_neg (by simp), if_pos (.inl h0)]
      go_enter Tryz.func8, Tryz.ntmps8
      go_wp2_with (refine (PC.out _).mono ?_; rintro e w3 ⟨rfl, hs3⟩; rw [← HW.out] at hs3)
      go_ret2
      exact ⟨by rw [hE.out]; rfl, Step.of⟩
    · by_cases h1 : 4096 < rows
      · have hE : Hid (T = (false, 1800)) := by show _ = _; rw [← HT.out, statsR, CK.out, if_neg (by simp), if_pos (.inr (.inl h1))]
        go_enter Tryz.func8, Tryz.ntmps8
        go_wp2_with (refine (PC.out _).mono ?_; rintro e w3 ⟨rfl, hs3⟩; rw [← HW.out] at hs3)
        go_ret2
        exact ⟨by rw [hE.out]; rfl, Step.of⟩
      · have H0 := hide h0; have H1 := hide h1
        go_enter Tryz.func8, Tryz.ntmps8
        go_wp2_with (refine (PC.out _).mono ?_; rintro e w3 ⟨rfl, hs3⟩; rw [← HW.out] at hs3)
        clear h0 h1
        have hz3 := hs3.size
        go_loop [11] (fun i => ∃ k : Nat, k ≤ sts.length ∧ i = .int .i64 k ∧ Hid (preO sts rows k = false)) (fun i => sts.length - (intOf i).toNat)
        case atStart => exact ⟨0, Nat.zero_le _, rfl, by show _ = _; rfl⟩
        case round =>
          obtain ⟨k, hk, rfl, HK⟩ := hrel
          by_cases hlt : k < sts.length
          · obtain ⟨b, off, rfl, hb, hc⟩ := ht.elem (w' := w3) inferInstance (k := k) (by simpa using hlt)
            obtain ⟨t, htk⟩ : ∃ t, sts[k]? = some t := ⟨_, List.getElem?_eq_getElem hlt⟩
            obtain ⟨s0, s1, s2, s3, s4, s5, s6, s7, s8, s9⟩ := At.l10 (hc k t.cells (by simp [htk]))
            have hlb : b < w3.heap.size := by omega
            have hkl : (k : Int) < (sts.length : Int) := by omega
            have hk0 : (0 : Int) ≤ (k : Int) := by omega
            have HTK := hide htk
            clear hc htk
            have HBAD : Hid (outOf rows t = true → T = (false, 1800)) := fun h => by
              have hany : sts.any (outOf rows) = true := List.any_eq_true.2 ⟨t, List.mem_of_getElem? HTK.out, h⟩
              rw [← HT.out, statsR, CK.out, if_neg (by simp), if_pos (.inr (.inr hany))]
            have HOK : Hid (outOf rows t = false → preO sts rows (k + 1) = false) := fun h => by
              rw [preO, List.take_add_one, HTK.out, List.any_append, show (sts.take k).any (outOf rows) = false from HK.out, Bool.false_or]
              simpa using h
            by_cases q1 : t.nulls < 0
            · have hE := hide (HBAD.out (by simp [outOf, q1]))
              go_wp2_with fail
              go_ret2
              exact ⟨by rw [hE.out]; rfl, Step.of⟩
            · by_cases q2 : rows < t.nulls
              · have hE := hide (HBAD.out (by simp [outOf, q2]))
                go_wp2_with fail
                go_ret2
                exact ⟨by rw [hE.out]; rfl, Step.of⟩
              · have HOK2 := hide (HOK.out (by simp [outOf]; omega))
                go_wp2_with fail
                go_round
                case rel => exact ⟨k + 1, by omega, by go_num, HOK2⟩
                case measure => simp [intOf]; omega
          · obtain rfl : k = sts.length := by omega
            have HK : Hid (sts.any (outOf rows) = false) := by
              have h := HK.out
              rw [preO, List.take_length] at h
              exact h
            have HQ : Hid (¬ (rows < 0 ∨ 4096 < rows ∨ sts.any (outOf rows) = true)) := by
              show ¬ _
              rw [HK.out]
              have := H0.out; have := H1.out
              simp; omega
            by_cases hz : rows = 0
            · have hE : Hid (T = (false, 0)) := by show _ = _; rw [← HT.out, statsR, CK.out, if_neg (by simp), if_neg HQ.out, if_pos hz]
              have ez : (rows == 0) = true := by simpa using hz
              clear hz
              go_wp2_with fail
              go_ret2
              exact ⟨by rw [hE.out]; rfl, Step.of⟩
            · have hE : Hid (T = (walkB (leafStat s sts rows) ns, 0)) := by show _ = _; rw [← HT.out, statsR, CK.out, if_neg (by simp), if_neg HQ.out, if_neg hz]
              have ez : (rows == 0) = false := by simpa using hz
              clear hz
              have h24 : ns.length ≤ 24 := (predB_iff.1 (checkE_inv CK.out).1).1
              have hls := hs.len
              obtain ⟨OBJ, hmk, hmb⟩ := made_ints ns.length (by omega)
              have HMB := hide hmb
              clear hmb
              have p0 := At.z1 (HPW.out.fut (w' := w3)).at0; have lp := (HPW.out.fut (w' := w3)).lt
              obtain ⟨X, hX⟩ : ∃ x : World, x = w3 := ⟨_, rfl⟩
              go_wp2_with fail
              clear p0 lp hmk
              obtain ⟨Y, hY⟩ : ∃ Y, Y = w3.alloc OBJ := ⟨_, rfl⟩
              have hGY : Blk Y w3.heap.size 3 (List.replicate ns.length (.int .i64 0)) := by rw [hY]; exact HMB.out w3
              have SY : Step w3 Y := by rw [hY]; exact Step.of
              rw [← hY]
              clear hY
              obtain ⟨g, hg⟩ : ∃ g, g = w3.heap.size := ⟨_, rfl⟩
              rw [← hg] at hGY
              rw [← hg]
              have NG : Newer X g := ⟨by rw [hX, hg]; exact Nat.le_refl _⟩
              rw [← hX] at hs3 SY
              rw [← hX] at hz3
              clear hg hX
              have HGY := hide hGY
              clear hGY
              go_loopw [13] (fun i wr => ∃ (k : Nat) (L : List Int), k ≤ ns.length ∧ i = .int .i64 k ∧ L.length = ns.length ∧ Laid ns (leafStat s sts rows) L k ∧ Blk wr g 3 (L.map fun v => Value.int .i64 v) ∧ Step X wr) (fun i _ => ns.length - (intOf i).toNat)
              case atStart => exact ⟨0, List.replicate ns.length 0, Nat.zero_le _, rfl, by simp, ⟨fun j n h => absurd h (Nat.not_lt_zero _)⟩, by simpa using HGY.out, SY⟩
              case round =>
                obtain ⟨k, L, hk, rfl, hLl, HLK, hblk, hst⟩ := hrel
                have HG := hide hblk; have HLL := hide hLl
                clear hblk hLl HGY
                have hs1 := hst.size
                obtain ⟨r0, r1⟩ : True ∧ True := ⟨trivial, trivial⟩
                obtain ⟨wo, hwo⟩ : ∃ x : World, x = wr := ⟨_, rfl⟩
                have e0 := At.z1 (HPW.out.fut (w' := wr)).at0; have le := (HPW.out.fut (w' := wr)).lt
                by_cases hlt : k < ns.length
                · obtain ⟨b, off, rfl, hb, n, hn, hat⟩ := hp.node (w' := X) inferInstance hlt
                  have hlb : b < X.heap.size := by omega
                  have hlb' : b < wr.heap.size := by omega
                  have HN := hide hn; clear hn
                  have hkl : (k : Int) < (ns.length : Int) := by omega
                  have hk0 : (0 : Int) ≤ (k : Int) := by omega
                  have HAT := hide hat
                  obtain ⟨m0, _, _, _, _, _, _, _, _⟩ := At.l9 (hat.below (fut X wr) hlb)
                  obtain ⟨n0, n1, n2, n3, n4, n5, n6, n7, n8⟩ := At.l9 hat
                  clear hat
                  by_cases h12 : n.kind = 1 ∨ n.kind = 2
                  · obtain ⟨j, hi, hj, hfj⟩ := node_col CK.out HN.out h12
                    obtain ⟨c, hcj⟩ : ∃ c, s.cols[j]? = some c := ⟨_, List.getElem?_eq_getElem hj⟩
                    obtain ⟨bc, oc, rfl, hbc, hcc⟩ := hs.at_.elem (w' := X) inferInstance (k := j) (by simpa using hj)
                    obtain ⟨c0, c1, c2⟩ := At.l3 (hcc j c.cells (by simp [hcj]))
                    have hlc : bc < X.heap.size := by omega
                    have HLE : Hid (leafS c.id sts rows n = leafStat s sts rows n) := by show _ = _; rw [leafStat_S, nodId, hfj, List.getD_eq_getElem?_getD, hcj]; rfl
                    obtain ⟨lv, hlv⟩ : ∃ lv, leafStat s sts rows n = lv := ⟨_, rfl⟩
                    have lf := fun w' [Fut w2 w'] => rleaf_any n sts At_ ct c.id rows w' ht htl (node_cmp2 CK.out (List.mem_of_getElem? HN.out) h12) HSS.out (hp.strs n (List.mem_of_getElem? HN.out)).2
                    rw [HLE.out, hlv] at lf
                    have HLV := hide hlv
                    have LF := hide lf
                    have FD := FDK.out n.col
                    rw [hi] at FD
                    have FD := hide FD
                    clear hi hcc hcj hfj lf hlv
                    have hj0 : (0 : Int) ≤ (j : Int) := by omega
                    have hj1 : (j : Int) < (s.cols.length : Int) := by omega
                    obtain ⟨u, hu⟩ : ∃ u, L[k]? = some u := ⟨_, List.getElem?_eq_getElem (by have := HLL.out; omega)⟩
                    have HU : Hid ((L.map fun v => Value.int .i64 v)[k]? = some (.int .i64 u)) := by show _ = _; simp [hu]
                    have h12' : (n.kind == 1) = true ∨ (n.kind == 1) = false ∧ (n.kind == 2) = true := by rcases h12 with h | h <;> simp [h]
                    have HK12 := hide h12
                    clear h12 hu
                    have e0X := At.z1 (HPW.out.fut (w' := X)).at0; have leX := (HPW.out.fut (w' := X)).lt
                    obtain ⟨q0, q1, q2⟩ := At.z3 (HSW.out.fut (w' := X)).at0; have lq := (HSW.out.fut (w' := X)).lt
                    rcases h12' with e1 | ⟨e1, e2⟩
                    all_goals
                      go_upto_region 18 with (fail)
                      clear e0 le m0 hlb'
                      refine wp_region_held_drew (S := (fun w' => Step X w' ∧ (∀ b o, b < X.heap.size → w'.cell? ⟨b, o, none⟩ = X.cell? ⟨b, o, none⟩))) (by kernel_rfl) (by (try dsimp only); (first | exact ⟨hS1, hS2⟩ | exact ⟨Step.of, fun b o h => (fut X _).cell (p := ⟨b, o, none⟩) h⟩)) (fun hHeld => ?_)
                      refine wpAnyH_take (i := 0) (oi := ⟨some 76, _, _, _, _, _⟩) (v := ?_) rfl (by kernel_rfl) (by kernel_rfl) (by kernel_rfl) (fun _ _ _ h => h) (Or.inl ⟨by rfl, ?_⟩) (by assumption) ?_
                      rotate_left
                      · ((intro w hSw); (try dsimp only at hSw); go_simp; (try with_reducible rfl))
                      (try simp only [Act.put, List.setIfInBounds_toArray, List.set_cons_zero, List.set_cons_succ])
                      refine wpAnyH_take (i := 1) (oi := ⟨some 77, _, _, _, _, _⟩) (v := ?_) rfl (by kernel_rfl) (by kernel_rfl) (by kernel_rfl) (fun _ _ _ h => h) (Or.inl ⟨by rfl, ?_⟩) (by assumption) ?_
                      rotate_left
                      · ((intro w hSw); (try dsimp only at hSw); go_simp; (try with_reducible rfl))
                      (try simp only [Act.put, List.setIfInBounds_toArray, List.set_cons_zero, List.set_cons_succ])
                      refine wpAnyH_take (i := 2) (oi := ⟨some 78, _, _, _, _, _⟩) (v := ?_) rfl (by kernel_rfl) (by kernel_rfl) (by kernel_rfl) (fun _ _ _ h => h) (Or.inl ⟨by rfl, ?_⟩) (by assumption) ?_
                      rotate_left
                      · ((intro w hSw); (try dsimp only at hSw); go_simp; (try with_reducible rfl))
                      (try simp only [Act.put, List.setIfInBounds_toArray, List.set_cons_zero, List.set_cons_succ])
                      refine wpAnyH_take (i := 3) (oi := ⟨some 79, _, _, _, _, _⟩) (v := ?_) rfl (by kernel_rfl) (by kernel_rfl) (by kernel_rfl) (fun _ _ _ h => h) (Or.inl ⟨by rfl, ?_⟩) (by assumption) ?_
                      rotate_left
                      · ((intro w hSw); (try dsimp only at hSw); go_simp; (try with_reducible rfl))
                      (try simp only [Act.put, List.setIfInBounds_toArray, List.set_cons_zero, List.set_cons_succ])
                      refine wpAnyH_take (i := 4) (oi := ⟨some 80, _, _, _, _, _⟩) (v := ?_) rfl (by kernel_rfl) (by kernel_rfl) (by kernel_rfl) (fun _ _ _ h => h) (Or.inl ⟨by rfl, ?_⟩) (by assumption) ?_
                      rotate_left
                      · ((intro w hSw); (try dsimp only at hSw); go_simp; (try with_reducible rfl))
                      (try simp only [Act.put, List.setIfInBounds_toArray, List.set_cons_zero, List.set_cons_succ])
                      refine wpAnyH_take (i := 5) (oi := ⟨some 81, _, _, _, _, _⟩) (v := ?_) rfl (by kernel_rfl) (by kernel_rfl) (by kernel_rfl) (fun _ _ _ h => h) (Or.inl ⟨by rfl, ?_⟩) (by assumption) ?_
                      rotate_left
                      · ((intro w hSw); (try dsimp only at hSw); go_simp; (try with_reducible rfl))
                      (try simp only [Act.put, List.setIfInBounds_toArray, List.set_cons_zero, List.set_cons_succ])
                      refine wpAnyH_take (i := 6) (oi := ⟨some 82, _, _, _, _, _⟩) (v := ?_) rfl (by kernel_rfl) (by kernel_rfl) (by kernel_rfl) (fun _ _ _ h => h) (Or.inl ⟨by rfl, ?_⟩) (by assumption) ?_
                      rotate_left
                      · ((intro w hSw); (try dsimp only at hSw); go_simp; (try with_reducible rfl))
                      (try simp only [Act.put, List.setIfInBounds_toArray, List.set_cons_zero, List.set_cons_succ])
                      refine wpAnyH_take (i := 7) (oi := ⟨some 83, _, _, _, _, _⟩) (v := ?_) rfl (by kernel_rfl) (by kernel_rfl) (by kernel_rfl) (fun _ _ _ h => h) (Or.inl ⟨by rfl, ?_⟩) (by assumption) ?_
                      rotate_left
                      · ((intro w hSw); (try dsimp only at hSw); go_simp; (try with_reducible rfl))
                      (try simp only [Act.put, List.setIfInBounds_toArray, List.set_cons_zero, List.set_cons_succ])
                      refine wpAnyH_take (i := 8) (oi := ⟨some 84, _, _, _, _, _⟩) (v := ?_) rfl (by kernel_rfl) (by kernel_rfl) (by kernel_rfl) (fun _ _ _ h => h) (Or.inl ⟨by rfl, ?_⟩) (by assumption) ?_
                      rotate_left
                      · ((intro w hSw); (try dsimp only at hSw); go_simp; (try with_reducible rfl))
                      (try simp only [Act.put, List.setIfInBounds_toArray, List.set_cons_zero, List.set_cons_succ])
                      refine wpAnyH_take (i := 9) (oi := ⟨some 85, _, _, _, _, _⟩) (v := ?_) rfl (by kernel_rfl) (by kernel_rfl) (by kernel_rfl) (fun _ _ _ h => h) (Or.inl ⟨by rfl, ?_⟩) (by assumption) ?_
                      rotate_left
                      · ((intro w hSw); (try dsimp only at hSw); go_simp; (try with_reducible rfl))
                      (try simp only [Act.put, List.setIfInBounds_toArray, List.set_cons_zero, List.set_cons_succ])
                      refine wpAnyH_take (i := 10) (oi := ⟨some 86, _, _, _, _, _⟩) (v := ?_) rfl (by kernel_rfl) (by kernel_rfl) (by kernel_rfl) (fun _ _ _ h => h) (Or.inl ⟨by rfl, ?_⟩) (by assumption) ?_
                      rotate_left
                      · ((intro w hSw); (try dsimp only at hSw); go_simp; (try with_reducible rfl))
                      (try simp only [Act.put, List.setIfInBounds_toArray, List.set_cons_zero, List.set_cons_succ])
                      refine wpAnyH_take (i := 11) (oi := ⟨some 87, _, _, _, _, _⟩) (v := ?_) rfl (by kernel_rfl) (by kernel_rfl) (by kernel_rfl) (fun _ _ _ h => h) (Or.inl ⟨by rfl, ?_⟩) (by assumption) ?_
                      rotate_left
                      · ((intro w hSw); (try dsimp only at hSw); go_simp; (try with_reducible rfl))
                      (try simp only [Act.put, List.setIfInBounds_toArray, List.set_cons_zero, List.set_cons_succ])
                      refine wpAnyH_take (i := 12) (oi := ⟨some 88, _, _, _, _, _⟩) (v := ?_) rfl (by kernel_rfl) (by kernel_rfl) (by kernel_rfl) (fun _ _ _ h => h) (Or.inl ⟨by rfl, ?_⟩) (by assumption) ?_
                      rotate_left
                      · ((intro w hSw); (try dsimp only at hSw); go_simp; (try with_reducible rfl))
                      (try simp only [Act.put, List.setIfInBounds_toArray, List.set_cons_zero, List.set_cons_succ])
                      refine wpAnyH_take (i := 13) (oi := ⟨some 89, _, _, _, _, _⟩) (v := ?_) rfl (by kernel_rfl) (by kernel_rfl) (by kernel_rfl) (fun _ _ _ h => h) (Or.inl ⟨by rfl, ?_⟩) (by assumption) ?_
                      rotate_left
                      · ((intro w hSw); (try dsimp only at hSw); go_simp; (try with_reducible rfl))
                      (try simp only [Act.put, List.setIfInBounds_toArray, List.set_cons_zero, List.set_cons_succ])
                      refine wpAnyH_take (i := 14) (oi := ⟨some 90, _, _, _, _, _⟩) (v := ?_) rfl (by kernel_rfl) (by kernel_rfl) (by kernel_rfl) (fun _ _ _ h => h) (Or.inl ⟨by rfl, ?_⟩) (by assumption) ?_
                      rotate_left
                      · ((intro w hSw); (try dsimp only at hSw); go_simp; (try with_reducible rfl))
                      (try simp only [Act.put, List.setIfInBounds_toArray, List.set_cons_zero, List.set_cons_succ])
                      refine wpAnyH_take (i := 15) (oi := ⟨some 91, _, _, _, _, _⟩) (v := ?_) rfl (by kernel_rfl) (by kernel_rfl) (by kernel_rfl) (fun _ _ _ h => h) (Or.inl ⟨by rfl, ?_⟩) (by assumption) ?_
                      rotate_left
                      · ((intro w hSw); (try dsimp only at hSw); go_simp; (try with_reducible rfl))
                      (try simp only [Act.put, List.setIfInBounds_toArray, List.set_cons_zero, List.set_cons_succ])
                      refine wpAnyH_take (i := 16) (oi := ⟨some 92, _, _, _, _, _⟩) (v := ?_) rfl (by kernel_rfl) (by kernel_rfl) (by kernel_rfl) (fun _ _ _ h => h) (Or.inl ⟨by rfl, ?_⟩) (by assumption) ?_
                      rotate_left
                      · ((intro w hSw); (try dsimp only at hSw); go_simp; (try with_reducible rfl))
                      (try simp only [Act.put, List.setIfInBounds_toArray, List.set_cons_zero, List.set_cons_succ])
                      refine wpAnyH_take (i := 21) (oi := ⟨some 97, _, _, _, _, _⟩) (v := ?_) rfl (by kernel_rfl) (by kernel_rfl) (by kernel_rfl) (fun _ _ _ h => h) (Or.inl ⟨by rfl, ?_⟩) (by assumption) ?_
                      rotate_left
                      · ((intro w hSw); (try dsimp only at hSw); go_simp; (try with_reducible rfl))
                      (try simp only [Act.put, List.setIfInBounds_toArray, List.set_cons_zero, List.set_cons_succ])
                      refine wpAnyH_ready (rs := [17]) (by kernel_rfl) (by simp) ?_
                      refine AllReadyH.cons (o := ⟨some 93, _, _, _, _, _⟩) rfl (fun K hK => ?_) AllReadyH.nil
                      obtain ⟨hS1, hS2⟩ := hHeld
                      go_simp
                      (go_at_call 31; (with_reducible refine (FD.out _).mono ?_); rintro e w4 ⟨rfl, hs4⟩)
                      refine hK.out _ _ (by (try dsimp only); (first | exact ⟨hS1, hS2⟩ | exact ⟨Step.of, fun b o h => (fut X _).cell (p := ⟨b, o, none⟩) h⟩)) (fun hHeld => ?_)
                      clear hK K
                      (try simp only [Act.put, List.setIfInBounds_toArray, List.set_cons_zero, List.set_cons_succ])
                      refine wpAnyH_take (i := 18) (oi := ⟨some 94, _, _, _, _, _⟩) (v := ?_) rfl (by kernel_rfl) (by kernel_rfl) (by kernel_rfl) (fun _ _ _ h => h) (Or.inl ⟨by rfl, ?_⟩) (by assumption) ?_
                      rotate_left
                      · ((intro w hSw); (try dsimp only at hSw); go_simp; (try with_reducible rfl))
                      (try simp only [Act.put, List.setIfInBounds_toArray, List.set_cons_zero, List.set_cons_succ])
                      refine wpAnyH_take (i := 19) (oi := ⟨some 95, _, _, _, _, _⟩) (v := ?_) rfl (by kernel_rfl) (by kernel_rfl) (by kernel_rfl) (fun _ _ _ h => h) (Or.inl ⟨by rfl, ?_⟩) (by assumption) ?_
                      rotate_left
                      · ((intro w hSw); (try dsimp only at hSw); go_simp; (try with_reducible rfl))
                      (try simp only [Act.put, List.setIfInBounds_toArray, List.set_cons_zero, List.set_cons_succ])
                      refine wpAnyH_take (i := 20) (oi := ⟨some 96, _, _, _, _, _⟩) (v := ?_) rfl (by kernel_rfl) (by kernel_rfl) (by kernel_rfl) (fun _ _ _ h => h) (Or.inl ⟨by rfl, ?_⟩) (by assumption) ?_
                      rotate_left
                      · ((intro w hSw); (try dsimp only at hSw); go_simp; (try with_reducible rfl))
                      (try simp only [Act.put, List.setIfInBounds_toArray, List.set_cons_zero, List.set_cons_succ])
                      refine wpAnyH_ready (rs := [22]) (by kernel_rfl) (by simp) ?_
                      refine AllReadyH.cons (o := ⟨some 98, _, _, _, _, _⟩) rfl (fun K hK => ?_) AllReadyH.nil
                      obtain ⟨hS1, hS2⟩ := hHeld
                      go_simp
                      (go_at_call 30; (with_reducible refine (LF.out _).mono ?_); rintro e w5 ⟨rfl, hs5⟩; have hG5 := HG.out.fut (w' := w5); have g5 : w5.cell? ⟨g, k, none⟩ = some (.int .i64 u) := (hG5.at0 k _ HU.out |> fun h => by simpa using h); have fg := hG5.free; have lg := hG5.lt; have HG5 := hide hG5; clear hG5)
                      refine hK.out _ _ (by (try dsimp only); (first | exact ⟨hS1, hS2⟩ | exact ⟨Step.of, fun b o h => (fut X _).cell (p := ⟨b, o, none⟩) h⟩)) (fun hHeld => ?_)
                      clear hK K
                      (try simp only [Act.put, List.setIfInBounds_toArray, List.set_cons_zero, List.set_cons_succ])
                      refine wpAnyH_take (i := 23) (oi := ⟨some 99, _, _, _, _, _⟩) (v := ?_) rfl (by kernel_rfl) (by kernel_rfl) (by kernel_rfl) (fun _ _ _ h => h) (Or.inl ⟨by rfl, ?_⟩) (by assumption) ?_
                      rotate_left
                      · ((intro w hSw); (try dsimp only at hSw); go_simp; (try with_reducible rfl))
                      (try simp only [Act.put, List.setIfInBounds_toArray, List.set_cons_zero, List.set_cons_succ])
                      refine wpAnyH_ready (rs := [24]) (by kernel_rfl) (by simp) ?_
                      refine AllReadyH.cons (o := ⟨none, _, _, _, _, _⟩) rfl (fun K hK => ?_) AllReadyH.nil
                      go_simp
                      refine hK.out _ _ (by (try dsimp only); (exact ⟨Step.of, fun b o h => (fut X _).cell (p := ⟨b, o, none⟩) h⟩)) (fun hHeld => ?_)
                      clear hK K
                      (try simp only [Act.put, List.setIfInBounds_toArray, List.set_cons_zero, List.set_cons_succ])
                      refine wpAnyH_done (by kernel_rfl) ?_ _
                      obtain ⟨hS1, hS2⟩ := hHeld
                      go_wp2_with fail
                      go_roundw
                      case rel =>
                        refine ⟨k + 1, L.set k (lv : Int), by omega, by go_num, by simp [HLL.out], ⟨fun i m hik hm hkm => ?_⟩, ?_, Step.of⟩
                        · by_cases e : i = k
                          · subst e
                            rw [HN.out] at hm
                            obtain rfl := Option.some.inj hm
                            rw [HLV.out, List.getElem?_set_self (by rw [HLL.out]; exact hlt)]
                          · rw [List.getElem?_set_ne (Ne.symm e)]
                            exact HLK.at_ i m (by omega) hm hkm
                        · rw [List.map_set]
                          exact HG5.out.set_ k _
                      case measure => simp [intOf]; omega
                  · have e1 : (n.kind == 1) = false := by simp; omega
                    have e2 : (n.kind == 2) = false := by simp; omega
                    have HK12 := hide h12
                    clear h12
                    go_wp2_with fail
                    go_roundw
                    case rel =>
                      refine ⟨k + 1, L, by omega, by go_num, HLL.out, ⟨fun i m hik hm hkm => ?_⟩, HG.out, Step.of⟩
                      by_cases e : i = k
                      · subst e
                        rw [HN.out] at hm
                        obtain rfl := Option.some.inj hm
                        exact absurd hkm HK12.out
                      · exact HLK.at_ i m (by omega) hm hkm
                    case measure => simp [intOf]; omega
                · obtain rfl : k = ns.length := by omega
                  have HSL : Hid (SlAt wr wr.heap.size 1 (some ⟨g, 0, none⟩) (intCells L)) := SlAt.of_blk1 HG.out (intCells_flat L) (int_fit L).len
                  have FO := hide (fun w' [Fut w0 w'] [Fut wr w'] => rfold_any ns A cap s L (some ⟨g, 0, none⟩) ns.length (leafStat s sts rows) w' hp CK.out (leafStat_lt s sts rows) HSL.out HLL.out (fun i m hm hkm => HLK.at_ i m (List.getElem?_eq_some_iff.1 hm).1 hm hkm))
                  obtain ⟨r, hr⟩ : ∃ r, walkB (leafStat s sts rows) ns = r := ⟨_, rfl⟩
                  rw [hr] at FO
                  have HTR : Hid (T = (r, 0)) := by show _ = _; rw [hE.out, hr]
                  clear hr
                  go_wp2_with (refine (FO.out _).mono ?_; rintro e w6 ⟨rfl, hs6⟩)
                  go_ret2
                  exact ⟨by rw [HTR.out]; rfl, Step.of⟩
  · have hE : Hid (T = (false, checkE ns s)) := by show _ = _; rw [← HT.out, statsR, if_pos hc]
    have hcb : (checkE ns s != 0) = true := by simpa using hc
    have PC := hide pc
    clear pc hc
    go_enter Tryz.func8, Tryz.ntmps8
    go_wp2_with (refine (PC.out _).mono ?_; rintro e w3 ⟨rfl, hs3⟩; rw [← HW.out] at hs3)
    go_ret2
    exact ⟨by rw [hE.out]; rfl, Step.of⟩
end Go.Proofs.YtcgpfllkbflbhaaGreatDoor
