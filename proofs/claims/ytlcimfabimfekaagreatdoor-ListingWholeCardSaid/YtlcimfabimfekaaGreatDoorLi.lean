/-
  listing.Latest, From: the latest version, and the one to begin from.
-/
import Derived.Test.YtlcimfabimfekaaGreatDoorLh
namespace Go.Proofs.YtlcimfabimfekaaGreatDoor
open Go.RowKit

set_option maxRecDepth 100000 in
set_option maxHeartbeats 16000000 in
theorem platest_any {w0 : World} (ks : List ByteArray) (A : Option Addr) (cap : Nat) (w : World) (h : KeysIn w0 ks A) (hl : ks.length ≤ 8796093022208) [f0 : Fut w0 w] :
    Calls Tryz.prog 12 #[.slice A ks.length cap] w fun e w' => e = .returned (.tuple #[.int .i64 (latestR (versL false ks) (versL true ks)).1, .int .i64 (latestR (versL false ks) (versL true ks)).2]) ∧ Step w w' := by
  obtain ⟨R, hR⟩ : ∃ R, latestR (versL false ks) (versL true ks) = R := ⟨_, rfl⟩
  rw [hR]
  unfold latestR at hR
  have HR := hide hR
  clear hR
  have hb := topR_bd ks
  have b1 := topL_bd (b := false) (ks := ks); have b2 := topL_bd (b := true) (ks := ks)
  have hM : max (topL (versL false ks)) (topL (versL true ks)) = topR (versL false ks) (versL true ks) := rfl
  have PO := hide (fun w' [Fut w0 w'] => pof_any ks A cap w' h hl)
  obtain ⟨C, hC⟩ : ∃ C, versL false ks = C := ⟨_, rfl⟩
  obtain ⟨K, hK⟩ : ∃ K, versL true ks = K := ⟨_, rfl⟩
  rw [hC, hK] at HR hb hM PO
  rw [hC] at b1
  rw [hK] at b2
  clear hC hK
  obtain ⟨FL, hFL⟩ : ∃ FL, floorR C K (topR C K) = FL := ⟨_, rfl⟩
  rw [hFL] at HR
  obtain ⟨T, hT⟩ : ∃ T, topR C K = T := ⟨_, rfl⟩
  obtain ⟨T0, hT0⟩ : ∃ T, topL C = T := ⟨_, rfl⟩
  obtain ⟨T1, hT1⟩ : ∃ T, topL K = T := ⟨_, rfl⟩
  rw [hT] at HR hM hb hFL
  rw [hT0] at hM b1
  rw [hT1] at hM b2
  have HT0 := hide hT0; have HT1 := hide hT1; have HFL := hide hFL
  clear hT hT0 hT1 hFL
  obtain ⟨f, fb⟩ := FL
  go_enter Tryz.func12, Tryz.ntmps12
  go_upto_region 2 with ((go_at_call 25; (with_reducible refine (PO.out _).mono ?_); rintro e w5 ⟨ys, zs, A1, A2, c1, c2, rfl, hy, hz, hs5⟩; have HY := hide hy; have HZ := hide hz; clear hy hz))
  obtain ⟨X, hX⟩ : ∃ x : World, x = w5.alloc (.cells #[.slice A1 ys.length c1, .slice A2 zs.length c2] 56) := ⟨_, rfl⟩
  have SX : Step w5 X := by rw [hX]; exact Step.of
  have HB : Hid (Blk X w5.heap.size 56 [.slice A1 ys.length c1, .slice A2 zs.length c2]) := by rw [hX]; exact Blk.new w5 [.slice A1 ys.length c1, .slice A2 zs.length c2] 56
  rw [← hX]
  clear hX
  obtain ⟨g4, hg4⟩ : ∃ g, g = w5.heap.size := ⟨_, rfl⟩
  rw [← hg4] at HB
  rw [← hg4]
  clear hg4
  have PL0 := fun w' [Fut w5 w'] => plast_any C ys A1 c1 w' HY.out
  have PL1 := fun w' [Fut w5 w'] => plast_any K zs A2 c2 w' HZ.out
  have PF := fun w' (h1 : T ≤ 2147483647) (h2 : -1 ≤ T) [Fut w5 w'] => pfloor_any C K ys A1 c1 zs A2 c2 T w' HY.out HZ.out h1 h2
  rw [HT0.out] at PL0
  rw [HT1.out] at PL1
  rw [HFL.out] at PF
  have PL0 := hide PL0; have PL1 := hide PL1
  have PF := hide (fun w' [Fut w5 w'] => PF w' (by omega) (by omega))
  have hq := HB.out
  obtain ⟨q0, q1⟩ := At.z2 hq.at0
  have lq := hq.lt
  clear hq
  refine wp_region_held_drew (S := (fun w' => Step X w' ∧ (∀ b o, b < X.heap.size → w'.cell? ⟨b, o, none⟩ = X.cell? ⟨b, o, none⟩))) (by kernel_rfl) (by (try dsimp only); (first | exact ⟨hS1, hS2⟩ | exact ⟨Step.of, (bcell (fut _ _)).1⟩)) (fun hHeld => ?_)
  refine wpAnyH_take (i := 0) (oi := ⟨some 10, _, _, _, _, _⟩) (v := ?_) rfl (by kernel_rfl) (by kernel_rfl) (by kernel_rfl) (fun _ _ _ h => h) (Or.inl ⟨by rfl, ?_⟩) (by assumption) ?_
  rotate_left
  · ((intro w hSw); (try dsimp only at hSw); go_simp; (try with_reducible rfl))
  (try simp only [Act.put, List.setIfInBounds_toArray, List.set_cons_zero, List.set_cons_succ])
  refine wpAnyH_take (i := 3) (oi := ⟨some 13, _, _, _, _, _⟩) (v := ?_) rfl (by kernel_rfl) (by kernel_rfl) (by kernel_rfl) (fun _ _ _ h => h) (Or.inl ⟨by rfl, ?_⟩) (by assumption) ?_
  rotate_left
  · ((intro w hSw); (try dsimp only at hSw); go_simp; (try with_reducible rfl))
  (try simp only [Act.put, List.setIfInBounds_toArray, List.set_cons_zero, List.set_cons_succ])
  refine wpAnyH_take (i := 1) (oi := ⟨some 11, _, _, _, _, _⟩) (v := ?_) rfl (by kernel_rfl) (by kernel_rfl) (by kernel_rfl) (fun _ _ _ h => h) (Or.inl ⟨by rfl, ?_⟩) (by assumption) ?_
  rotate_left
  · ((intro w hSw); (try dsimp only at hSw); go_simp; (try with_reducible rfl))
  (try simp only [Act.put, List.setIfInBounds_toArray, List.set_cons_zero, List.set_cons_succ])
  refine wpAnyH_take (i := 4) (oi := ⟨some 14, _, _, _, _, _⟩) (v := ?_) rfl (by kernel_rfl) (by kernel_rfl) (by kernel_rfl) (fun _ _ _ h => h) (Or.inl ⟨by rfl, ?_⟩) (by assumption) ?_
  rotate_left
  · ((intro w hSw); (try dsimp only at hSw); go_simp; (try with_reducible rfl))
  (try simp only [Act.put, List.setIfInBounds_toArray, List.set_cons_zero, List.set_cons_succ])
  refine wpAnyH_ready (rs := [2]) (by kernel_rfl) (by simp) ?_
  refine AllReadyH.cons (o := ⟨some 12, _, _, _, _, _⟩) rfl (fun K hK => ?_) AllReadyH.nil
  obtain ⟨hS1, hS2⟩ := hHeld
  go_simp
  (go_at_call 26; (with_reducible refine (PL0.out _).mono ?_); rintro e w6 ⟨rfl, hs6⟩)
  refine hK.out _ _ (by (try dsimp only); (first | exact ⟨hS1, hS2⟩ | exact ⟨Step.of, (bcell (fut _ _)).1⟩)) (fun hHeld => ?_)
  clear hK K
  (try simp only [Act.put, List.setIfInBounds_toArray, List.set_cons_zero, List.set_cons_succ])
  refine wpAnyH_ready (rs := [5]) (by kernel_rfl) (by simp) ?_
  refine AllReadyH.cons (o := ⟨some 15, _, _, _, _, _⟩) rfl (fun K hK => ?_) AllReadyH.nil
  obtain ⟨hS1, hS2⟩ := hHeld
  go_simp
  (go_at_call 26; (with_reducible refine (PL1.out _).mono ?_); rintro e w7 ⟨rfl, hs7⟩)
  refine hK.out _ _ (by (try dsimp only); (first | exact ⟨hS1, hS2⟩ | exact ⟨Step.of, (bcell (fut _ _)).1⟩)) (fun hHeld => ?_)
  clear hK K
  (try simp only [Act.put, List.setIfInBounds_toArray, List.set_cons_zero, List.set_cons_succ])
  refine wpAnyH_take (i := 6) (oi := ⟨some 16, _, _, _, _, _⟩) (v := ?_) rfl (by kernel_rfl) (by kernel_rfl) (by kernel_rfl) (fun _ _ _ h => h) (Or.inl ⟨by rfl, ?_⟩) (by assumption) ?_
  rotate_left
  · ((intro w hSw); (try dsimp only at hSw); go_simp; (try with_reducible rfl))
  (try simp only [Act.put, List.setIfInBounds_toArray, List.set_cons_zero, List.set_cons_succ])
  refine wpAnyH_take (i := 7) (oi := ⟨some 5, _, _, _, _, _⟩) (v := ?_) rfl (by kernel_rfl) (by kernel_rfl) (by kernel_rfl) (fun _ _ _ h => h) (Or.inl ⟨by rfl, ?_⟩) (by assumption) ?_
  rotate_left
  · ((intro w hSw); (try dsimp only at hSw); go_simp; (try with_reducible rfl))
  (try simp only [Act.put, List.setIfInBounds_toArray, List.set_cons_zero, List.set_cons_succ])
  refine wpAnyH_done (by kernel_rfl) ?_ _
  clear hHeld q0 q1 lq
  have hq := HB.out.fut (w' := w7)
  obtain ⟨q0, q1⟩ := At.z2 hq.at0
  have lq := hq.lt
  clear hq
  by_cases h0 : T < 0
  · have HT : Hid (R = (0, 2202)) := by show _ = _; rw [← HR.out, if_pos h0]
    go_wp2_with fail
    go_ret2
    exact ⟨by rw [HT.out]; rfl, Step.of⟩
  · cases fb with
    | true =>
      have HT : Hid (R = (T, 0)) := by show _ = _; rw [← HR.out, if_neg h0]; rfl
      go_wp2_with (go_at_call 27; (with_reducible refine (PF.out _).mono ?_); rintro e w8 ⟨rfl, hs8⟩)
      go_ret2
      exact ⟨by rw [HT.out]; rfl, Step.of⟩
    | false =>
      have HT : Hid (R = (0, 2201)) := by show _ = _; rw [← HR.out, if_neg h0]; rfl
      go_wp2_with (go_at_call 27; (with_reducible refine (PF.out _).mono ?_); rintro e w8 ⟨rfl, hs8⟩)
      go_ret2
      exact ⟨by rw [HT.out]; rfl, Step.of⟩

set_option maxRecDepth 100000 in
set_option maxHeartbeats 16000000 in
theorem pfrom_any {w0 : World} (ks : List ByteArray) (A : Option Addr) (cap : Nat) (v : Int) (w : World) (h : KeysIn w0 ks A) (hl : ks.length ≤ 8796093022208) [f0 : Fut w0 w] :
    Calls Tryz.prog 15 #[.slice A ks.length cap, .int .i64 v] w fun e w' => e = .returned (.tuple #[.int .i64 (fromR (versL false ks) (versL true ks) v).1, .int .i64 (fromR (versL false ks) (versL true ks) v).2]) ∧ Step w w' := by
  obtain ⟨R, hR⟩ : ∃ R, fromR (versL false ks) (versL true ks) v = R := ⟨_, rfl⟩
  rw [hR]
  unfold fromR at hR
  have HR := hide hR
  clear hR
  have hb := topR_bd ks
  have b1 := topL_bd (b := false) (ks := ks); have b2 := topL_bd (b := true) (ks := ks)
  have hM : max (topL (versL false ks)) (topL (versL true ks)) = topR (versL false ks) (versL true ks) := rfl
  have PO := hide (fun w' [Fut w0 w'] => pof_any ks A cap w' h hl)
  obtain ⟨C, hC⟩ : ∃ C, versL false ks = C := ⟨_, rfl⟩
  obtain ⟨K, hK⟩ : ∃ K, versL true ks = K := ⟨_, rfl⟩
  rw [hC, hK] at HR hb hM PO
  rw [hC] at b1
  rw [hK] at b2
  clear hC hK
  obtain ⟨FL, hFL⟩ : ∃ FL, floorR C K v = FL := ⟨_, rfl⟩
  rw [hFL] at HR
  obtain ⟨T, hT⟩ : ∃ T, topR C K = T := ⟨_, rfl⟩
  obtain ⟨T0, hT0⟩ : ∃ T, topL C = T := ⟨_, rfl⟩
  obtain ⟨T1, hT1⟩ : ∃ T, topL K = T := ⟨_, rfl⟩
  rw [hT] at HR hM hb
  rw [hT0] at hM b1
  rw [hT1] at hM b2
  have HT0 := hide hT0; have HT1 := hide hT1; have HFL := hide hFL
  clear hT hT0 hT1 hFL
  obtain ⟨f, fb⟩ := FL
  by_cases hv0 : v < 0
  · have HT : Hid (R = (0, 2200)) := by show _ = _; rw [← HR.out, if_pos hv0]
    go_enter Tryz.func15, Tryz.ntmps15
    go_wp2_with fail
    go_ret2
    exact ⟨by rw [HT.out]; rfl, Step.of⟩
  go_enter Tryz.func15, Tryz.ntmps15
  go_upto_region 4 with ((go_at_call 25; (with_reducible refine (PO.out _).mono ?_); rintro e w5 ⟨ys, zs, A1, A2, c1, c2, rfl, hy, hz, hs5⟩; have HY := hide hy; have HZ := hide hz; clear hy hz))
  obtain ⟨X, hX⟩ : ∃ x : World, x = w5.alloc (.cells #[.slice A1 ys.length c1, .slice A2 zs.length c2] 56) := ⟨_, rfl⟩
  have SX : Step w5 X := by rw [hX]; exact Step.of
  have HB : Hid (Blk X w5.heap.size 56 [.slice A1 ys.length c1, .slice A2 zs.length c2]) := by rw [hX]; exact Blk.new w5 [.slice A1 ys.length c1, .slice A2 zs.length c2] 56
  rw [← hX]
  clear hX
  obtain ⟨g4, hg4⟩ : ∃ g, g = w5.heap.size := ⟨_, rfl⟩
  rw [← hg4] at HB
  rw [← hg4]
  clear hg4
  have PL0 := fun w' [Fut w5 w'] => plast_any C ys A1 c1 w' HY.out
  have PL1 := fun w' [Fut w5 w'] => plast_any K zs A2 c2 w' HZ.out
  have PF := fun w' (h1 : v ≤ 2147483647) (h2 : -1 ≤ v) [Fut w5 w'] => pfloor_any C K ys A1 c1 zs A2 c2 v w' HY.out HZ.out h1 h2
  rw [HT0.out] at PL0
  rw [HT1.out] at PL1
  rw [HFL.out] at PF
  have PL0 := hide PL0; have PL1 := hide PL1
  have hq := HB.out
  obtain ⟨q0, q1⟩ := At.z2 hq.at0
  have lq := hq.lt
  clear hq
  by_cases h1 : T < v
  · refine wp_region_held_drew (S := (fun w' => Step X w' ∧ (∀ b o, b < X.heap.size → w'.cell? ⟨b, o, none⟩ = X.cell? ⟨b, o, none⟩))) (by kernel_rfl) (by (try dsimp only); (first | exact ⟨hS1, hS2⟩ | exact ⟨Step.of, (bcell (fut _ _)).1⟩)) (fun hHeld => ?_)
    refine wpAnyH_take (i := 0) (oi := ⟨some 13, _, _, _, _, _⟩) (v := ?_) rfl (by kernel_rfl) (by kernel_rfl) (by kernel_rfl) (fun _ _ _ h => h) (Or.inl ⟨by rfl, ?_⟩) (by assumption) ?_
    rotate_left
    · ((intro w hSw); (try dsimp only at hSw); go_simp; (try with_reducible rfl))
    (try simp only [Act.put, List.setIfInBounds_toArray, List.set_cons_zero, List.set_cons_succ])
    refine wpAnyH_take (i := 1) (oi := ⟨some 14, _, _, _, _, _⟩) (v := ?_) rfl (by kernel_rfl) (by kernel_rfl) (by kernel_rfl) (fun _ _ _ h => h) (Or.inl ⟨by rfl, ?_⟩) (by assumption) ?_
    rotate_left
    · ((intro w hSw); (try dsimp only at hSw); go_simp; (try with_reducible rfl))
    (try simp only [Act.put, List.setIfInBounds_toArray, List.set_cons_zero, List.set_cons_succ])
    refine wpAnyH_take (i := 4) (oi := ⟨some 17, _, _, _, _, _⟩) (v := ?_) rfl (by kernel_rfl) (by kernel_rfl) (by kernel_rfl) (fun _ _ _ h => h) (Or.inl ⟨by rfl, ?_⟩) (by assumption) ?_
    rotate_left
    · ((intro w hSw); (try dsimp only at hSw); go_simp; (try with_reducible rfl))
    (try simp only [Act.put, List.setIfInBounds_toArray, List.set_cons_zero, List.set_cons_succ])
    refine wpAnyH_take (i := 2) (oi := ⟨some 15, _, _, _, _, _⟩) (v := ?_) rfl (by kernel_rfl) (by kernel_rfl) (by kernel_rfl) (fun _ _ _ h => h) (Or.inl ⟨by rfl, ?_⟩) (by assumption) ?_
    rotate_left
    · ((intro w hSw); (try dsimp only at hSw); go_simp; (try with_reducible rfl))
    (try simp only [Act.put, List.setIfInBounds_toArray, List.set_cons_zero, List.set_cons_succ])
    refine wpAnyH_take (i := 5) (oi := ⟨some 18, _, _, _, _, _⟩) (v := ?_) rfl (by kernel_rfl) (by kernel_rfl) (by kernel_rfl) (fun _ _ _ h => h) (Or.inl ⟨by rfl, ?_⟩) (by assumption) ?_
    rotate_left
    · ((intro w hSw); (try dsimp only at hSw); go_simp; (try with_reducible rfl))
    (try simp only [Act.put, List.setIfInBounds_toArray, List.set_cons_zero, List.set_cons_succ])
    refine wpAnyH_ready (rs := [3]) (by kernel_rfl) (by simp) ?_
    refine AllReadyH.cons (o := ⟨some 16, _, _, _, _, _⟩) rfl (fun K hK => ?_) AllReadyH.nil
    obtain ⟨hS1, hS2⟩ := hHeld
    go_simp
    (go_at_call 26; (with_reducible refine (PL0.out _).mono ?_); rintro e w6 ⟨rfl, hs6⟩)
    refine hK.out _ _ (by (try dsimp only); (first | exact ⟨hS1, hS2⟩ | exact ⟨Step.of, (bcell (fut _ _)).1⟩)) (fun hHeld => ?_)
    clear hK K
    (try simp only [Act.put, List.setIfInBounds_toArray, List.set_cons_zero, List.set_cons_succ])
    refine wpAnyH_ready (rs := [6]) (by kernel_rfl) (by simp) ?_
    refine AllReadyH.cons (o := ⟨some 19, _, _, _, _, _⟩) rfl (fun K hK => ?_) AllReadyH.nil
    obtain ⟨hS1, hS2⟩ := hHeld
    go_simp
    (go_at_call 26; (with_reducible refine (PL1.out _).mono ?_); rintro e w7 ⟨rfl, hs7⟩)
    refine hK.out _ _ (by (try dsimp only); (first | exact ⟨hS1, hS2⟩ | exact ⟨Step.of, (bcell (fut _ _)).1⟩)) (fun hHeld => ?_)
    clear hK K
    (try simp only [Act.put, List.setIfInBounds_toArray, List.set_cons_zero, List.set_cons_succ])
    refine wpAnyH_take (i := 7) (oi := ⟨some 20, _, _, _, _, _⟩) (v := ?_) rfl (by kernel_rfl) (by kernel_rfl) (by kernel_rfl) (fun _ _ _ h => h) (Or.inl ⟨by rfl, ?_⟩) (by assumption) ?_
    rotate_left
    · ((intro w hSw); (try dsimp only at hSw); go_simp; (try with_reducible rfl))
    (try simp only [Act.put, List.setIfInBounds_toArray, List.set_cons_zero, List.set_cons_succ])
    refine wpAnyH_take (i := 8) (oi := ⟨some 21, _, _, _, _, _⟩) (v := ?_) rfl (by kernel_rfl) (by kernel_rfl) (by kernel_rfl) (fun _ _ _ h => h) (Or.inl ⟨by rfl, ?_⟩) (by assumption) ?_
    rotate_left
    · ((intro w hSw); (try dsimp only at hSw); go_simp; (try with_reducible rfl))
    (try simp only [Act.put, List.setIfInBounds_toArray, List.set_cons_zero, List.set_cons_succ])
    refine wpAnyH_done (by kernel_rfl) ?_ _
    clear hHeld q0 q1 lq
    have hq := HB.out.fut (w' := w7)
    obtain ⟨q0, q1⟩ := At.z2 hq.at0
    have lq := hq.lt
    clear hq
    have HT : Hid (R = (0, 2202)) := by show _ = _; rw [← HR.out, if_neg (Int.not_lt.2 hv0), if_pos h1]
    go_wp2_with fail
    go_ret2
    exact ⟨by rw [HT.out]; rfl, Step.of⟩
  · refine wp_region_held_drew (S := (fun w' => Step X w' ∧ (∀ b o, b < X.heap.size → w'.cell? ⟨b, o, none⟩ = X.cell? ⟨b, o, none⟩))) (by kernel_rfl) (by (try dsimp only); (first | exact ⟨hS1, hS2⟩ | exact ⟨Step.of, (bcell (fut _ _)).1⟩)) (fun hHeld => ?_)
    refine wpAnyH_take (i := 0) (oi := ⟨some 13, _, _, _, _, _⟩) (v := ?_) rfl (by kernel_rfl) (by kernel_rfl) (by kernel_rfl) (fun _ _ _ h => h) (Or.inl ⟨by rfl, ?_⟩) (by assumption) ?_
    rotate_left
    · ((intro w hSw); (try dsimp only at hSw); go_simp; (try with_reducible rfl))
    (try simp only [Act.put, List.setIfInBounds_toArray, List.set_cons_zero, List.set_cons_succ])
    refine wpAnyH_take (i := 1) (oi := ⟨some 14, _, _, _, _, _⟩) (v := ?_) rfl (by kernel_rfl) (by kernel_rfl) (by kernel_rfl) (fun _ _ _ h => h) (Or.inl ⟨by rfl, ?_⟩) (by assumption) ?_
    rotate_left
    · ((intro w hSw); (try dsimp only at hSw); go_simp; (try with_reducible rfl))
    (try simp only [Act.put, List.setIfInBounds_toArray, List.set_cons_zero, List.set_cons_succ])
    refine wpAnyH_take (i := 4) (oi := ⟨some 17, _, _, _, _, _⟩) (v := ?_) rfl (by kernel_rfl) (by kernel_rfl) (by kernel_rfl) (fun _ _ _ h => h) (Or.inl ⟨by rfl, ?_⟩) (by assumption) ?_
    rotate_left
    · ((intro w hSw); (try dsimp only at hSw); go_simp; (try with_reducible rfl))
    (try simp only [Act.put, List.setIfInBounds_toArray, List.set_cons_zero, List.set_cons_succ])
    refine wpAnyH_take (i := 2) (oi := ⟨some 15, _, _, _, _, _⟩) (v := ?_) rfl (by kernel_rfl) (by kernel_rfl) (by kernel_rfl) (fun _ _ _ h => h) (Or.inl ⟨by rfl, ?_⟩) (by assumption) ?_
    rotate_left
    · ((intro w hSw); (try dsimp only at hSw); go_simp; (try with_reducible rfl))
    (try simp only [Act.put, List.setIfInBounds_toArray, List.set_cons_zero, List.set_cons_succ])
    refine wpAnyH_take (i := 5) (oi := ⟨some 18, _, _, _, _, _⟩) (v := ?_) rfl (by kernel_rfl) (by kernel_rfl) (by kernel_rfl) (fun _ _ _ h => h) (Or.inl ⟨by rfl, ?_⟩) (by assumption) ?_
    rotate_left
    · ((intro w hSw); (try dsimp only at hSw); go_simp; (try with_reducible rfl))
    (try simp only [Act.put, List.setIfInBounds_toArray, List.set_cons_zero, List.set_cons_succ])
    refine wpAnyH_ready (rs := [3]) (by kernel_rfl) (by simp) ?_
    refine AllReadyH.cons (o := ⟨some 16, _, _, _, _, _⟩) rfl (fun K hK => ?_) AllReadyH.nil
    obtain ⟨hS1, hS2⟩ := hHeld
    go_simp
    (go_at_call 26; (with_reducible refine (PL0.out _).mono ?_); rintro e w6 ⟨rfl, hs6⟩)
    refine hK.out _ _ (by (try dsimp only); (first | exact ⟨hS1, hS2⟩ | exact ⟨Step.of, (bcell (fut _ _)).1⟩)) (fun hHeld => ?_)
    clear hK K
    (try simp only [Act.put, List.setIfInBounds_toArray, List.set_cons_zero, List.set_cons_succ])
    refine wpAnyH_ready (rs := [6]) (by kernel_rfl) (by simp) ?_
    refine AllReadyH.cons (o := ⟨some 19, _, _, _, _, _⟩) rfl (fun K hK => ?_) AllReadyH.nil
    obtain ⟨hS1, hS2⟩ := hHeld
    go_simp
    (go_at_call 26; (with_reducible refine (PL1.out _).mono ?_); rintro e w7 ⟨rfl, hs7⟩)
    refine hK.out _ _ (by (try dsimp only); (first | exact ⟨hS1, hS2⟩ | exact ⟨Step.of, (bcell (fut _ _)).1⟩)) (fun hHeld => ?_)
    clear hK K
    (try simp only [Act.put, List.setIfInBounds_toArray, List.set_cons_zero, List.set_cons_succ])
    refine wpAnyH_take (i := 7) (oi := ⟨some 20, _, _, _, _, _⟩) (v := ?_) rfl (by kernel_rfl) (by kernel_rfl) (by kernel_rfl) (fun _ _ _ h => h) (Or.inl ⟨by rfl, ?_⟩) (by assumption) ?_
    rotate_left
    · ((intro w hSw); (try dsimp only at hSw); go_simp; (try with_reducible rfl))
    (try simp only [Act.put, List.setIfInBounds_toArray, List.set_cons_zero, List.set_cons_succ])
    refine wpAnyH_take (i := 8) (oi := ⟨some 21, _, _, _, _, _⟩) (v := ?_) rfl (by kernel_rfl) (by kernel_rfl) (by kernel_rfl) (fun _ _ _ h => h) (Or.inl ⟨by rfl, ?_⟩) (by assumption) ?_
    rotate_left
    · ((intro w hSw); (try dsimp only at hSw); go_simp; (try with_reducible rfl))
    (try simp only [Act.put, List.setIfInBounds_toArray, List.set_cons_zero, List.set_cons_succ])
    refine wpAnyH_done (by kernel_rfl) ?_ _
    clear hHeld q0 q1 lq
    have hq := HB.out.fut (w' := w7)
    obtain ⟨q0, q1⟩ := At.z2 hq.at0
    have lq := hq.lt
    clear hq
    have PF := hide (fun w' [Fut w5 w'] => PF w' (by omega) (by omega))
    cases fb with
    | true =>
      have HT : Hid (R = (f, 0)) := by show _ = _; rw [← HR.out, if_neg (Int.not_lt.2 hv0), if_neg h1]; rfl
      go_wp2_with (go_at_call 27; (with_reducible refine (PF.out _).mono ?_); rintro e w8 ⟨rfl, hs8⟩)
      go_ret2
      exact ⟨by rw [HT.out]; rfl, Step.of⟩
    | false =>
      have HT : Hid (R = (0, 2201)) := by show _ = _; rw [← HR.out, if_neg (Int.not_lt.2 hv0), if_neg h1]; rfl
      go_wp2_with (go_at_call 27; (with_reducible refine (PF.out _).mono ?_); rintro e w8 ⟨rfl, hs8⟩)
      go_ret2
      exact ⟨by rw [HT.out]; rfl, Step.of⟩
end Go.Proofs.YtlcimfabimfekaaGreatDoor
