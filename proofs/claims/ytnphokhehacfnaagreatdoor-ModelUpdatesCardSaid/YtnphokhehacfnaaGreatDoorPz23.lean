/-
  Texts put together: Xf.
-/
import Derived.Test.YtnphokhehacfnaaGreatDoorPz21
import Derived.Test.YtnphokhehacfnaaGreatDoorPz22
namespace Go.Proofs.YtnphokhehacfnaaGreatDoor
open Go.RowKit

/-- An update of column a. -/
theorem applyU {w0 w1 : World} {t : TbA} {ys : List Int} {ns : List Nod} {An : Option Addr} {cn : Nat} (u : Val) (w : World) (ht : t.tb = tab2 ys) (hin : TbIn w0 t) (hp : PrIn w1 ns An cn) [f0 : Fut w0 w] [f1 : Fut w1 w] (hl : ys.length ≤ 20) (h1 : predB ns = true) (h2 : checkE ns sb25 = 0) (hv : valueB u = true) (hw : wholeB 1 u = true) (hf : FineD u) :
    Calls Tryz.prog 13 #[.agg #[.int .i64 t.s.id, .slice t.As t.s.cols.length t.cs, .int .i64 t.s.next, .int .i64 t.sid, .slice t.Af t.fs.length t.cf, .slice t.Ar t.rs.length t.cr], .agg #[.int .i64 3, .string ⟨#[]⟩, .slice none 0 0, .slice none 0 0, .slice An ns.length cn, .string ⟨#[97]⟩, .string ⟨#[]⟩, .int .i64 0, .int .i64 u.kind, .int .i64 u.i, .bool u.b, .string u.s, .slice none 0 0, .int .i64 0, .int .i64 0, .int .i64 0]] w (ApplyR w (tabG (ys.map fun x => if yesN ns x = true then u else kv25 x), 0)) := by
  have := apply_upd (w0 := w0) (w1 := w) t ⟨3, ⟨#[]⟩, [], none, 0, [], none, 0, ns, An, cn, ⟨#[97]⟩, ⟨#[]⟩, 0, u, [], none, 0, 0, 0, 0⟩ w hin ⟨SlAt.nil_, Nat.zero_le _, Nat.le_refl _, RowsIn.none_ _, fun r h => by simp at h, hp.fut, FsIn.none_ _, Nat.zero_le _, hf, (by show 0 ≤ 9223372036854775807; decide)⟩ rfl
  rw [ht] at this
  rw [show applyP (tab2 ys) (OpA.op ⟨3, ⟨#[]⟩, [], none, 0, [], none, 0, ns, An, cn, ⟨#[97]⟩, ⟨#[]⟩, 0, u, [], none, 0, 0, 0, 0⟩) = _ from upd2 h1 h2 hv hw hl] at this
  exact this
theorem zero_value : valueB Val.zero = true := by kernel_rfl
set_option maxRecDepth 100000 in
set_option maxHeartbeats 16000000 in
theorem updates_any {w0 : World} (xs : List Int) (A : Option Addr) (cap : Nat) (v w_ : Int) (w : World) (h : SlAt w0 w0.heap.size 1 A (intCells xs)) [f0 : Fut w0 w] (hl : xs.length ≤ 4611686018427387904) (hr : ∀ x ∈ xs, -9223372036854775808 ≤ x ∧ x ≤ 9223372036854775807) (hwr : -9223372036854775808 ≤ w_ ∧ w_ ≤ 9223372036854775807) :
    Calls Tryz.prog 9 #[.slice A xs.length cap, .int .i64 v, .int .i64 w_] w fun e w' => e = .returned (.bool true) ∧ Step w w' := by
  have FC : Hid (∀ (w' : World) [Fut w w'], Calls Tryz.prog 35 #[.slice A xs.length cap] w' fun e w'' => ∃ t : TbA, e = .returned (.tuple #[.agg #[.int .i64 t.s.id, .slice t.As t.s.cols.length t.cs, .int .i64 t.s.next, .int .i64 t.sid, .slice t.Af t.fs.length t.cf, .slice t.Ar t.rs.length t.cr], .bool true]) ∧ t.tb = fil25 xs ∧ TbOwnR w'' w'.heap.size t ∧ Step w' w'') := fun w' hq => haveI := Fut.tr f0 hq; filled_any xs A cap w' h hl hr
  obtain ⟨ys, hys⟩ : ∃ ys, xs.take 20 = ys := ⟨_, rfl⟩
  have HYL : Hid (ys.length ≤ 20) := by show _ ≤ _; rw [← hys, List.length_take]; omega
  have HYR : Hid (∀ x ∈ ys, -9223372036854775808 ≤ x ∧ x ≤ 9223372036854775807) := fun x hx => hr x (List.mem_of_mem_take (by rw [hys]; exact hx))
  have HYF : Hid (fil25 xs = tab2 ys) := by show _ = _; rw [← hys]; rfl
  have HWR := hide hwr
  clear hr hwr
  go_enter Tryz.func9, Tryz.ntmps9
  go_upto_region 4 with (first | (go_at_call 31; (with_reducible refine (awake25_any _).mono ?_); rintro e w1 ⟨rfl, hs1⟩) | (go_at_call 35; (with_reducible refine (FC.out _).mono ?_); rintro e w2 ⟨tA, rfl, ht1, ho1, hs2⟩; have HT1 := hide ht1; have HO1 := hide ho1; clear ht1 ho1))
  rw [HYF.out] at HT1
  obtain ⟨X4, hX4⟩ : ∃ x : World, x = w2.alloc (.cells #[.int .i64 tA.s.id, .slice tA.As tA.s.cols.length tA.cs, .int .i64 tA.s.next, .int .i64 tA.sid, .slice tA.Af tA.fs.length tA.cf, .slice tA.Ar tA.rs.length tA.cr] 30) := ⟨_, rfl⟩
  have SX4 : Step w2 X4 := by rw [hX4]; exact Step.of
  have HTB : Hid (Blk X4 w2.heap.size 30 [.int .i64 tA.s.id, .slice tA.As tA.s.cols.length tA.cs, .int .i64 tA.s.next, .int .i64 tA.sid, .slice tA.Af tA.fs.length tA.cf, .slice tA.Ar tA.rs.length tA.cr]) := by rw [hX4]; exact Blk.new w2 _ 30
  rw [← hX4]
  clear hX4 hys
  have HTI : Hid (TbIn X4 tA) := tb_in HO1.out.fut (by rw [HT1.out]; exact tab2_may HYL.out)
  obtain ⟨m0, hm0⟩ : ∃ m, (ys.filter (yesN [cmpN 0 w_])).length = m := ⟨_, rfl⟩
  obtain ⟨m2, hm2⟩ : ∃ m, (ys.filter (yesN [cmpN 2 v])).length = m := ⟨_, rfl⟩
  have HM0 := hide hm0; have HM2 := hide hm2
  have hb0 : m0 ≤ 20 := by rw [← hm0]; exact Nat.le_trans (List.length_filter_le _ _) HYL.out
  have hb2 : m2 ≤ 20 := by rw [← hm2]; exact Nat.le_trans (List.length_filter_le _ _) HYL.out
  clear hm0 hm2
  have TC0 : Hid (∀ {wa : World} {b : Nat}, Blk wa b 77 [.int .i64 1, .string ⟨#[97]⟩, .int .i64 0, .int .i64 1, .int .i64 w_, .bool false, .string ⟨#[]⟩, .int .i64 0, .int .i64 0] → ∀ (w' : World) [Fut X4 w'] [Fut wa w'], Calls Tryz.prog 36 #[.agg #[.int .i64 tA.s.id, .slice tA.As tA.s.cols.length tA.cs, .int .i64 tA.s.next, .int .i64 tA.sid, .slice tA.Af tA.fs.length tA.cf, .slice tA.Ar tA.rs.length tA.cr], .agg #[.slice (some ⟨b, 0, none⟩) 1 1]] w' fun e w'' => e = .returned (.int .i64 (m0 : Int)) ∧ Step w' w'') := by
    intro wa b hb w' _ _
    have := total2 (w0 := X4) (w1 := wa) (ns := [cmpN 0 w_]) w' HT1.out HTI.out (pr_cmp hb) HYR.out HYL.out (cmp_pred (by omega) (by omega)) (cmp_check (by omega) (by omega))
    rw [HM0.out] at this
    exact this
  have TC2 : Hid (∀ {wa : World} {b : Nat}, Blk wa b 77 [.int .i64 1, .string ⟨#[97]⟩, .int .i64 2, .int .i64 1, .int .i64 v, .bool false, .string ⟨#[]⟩, .int .i64 0, .int .i64 0] → ∀ (w' : World) [Fut X4 w'] [Fut wa w'], Calls Tryz.prog 36 #[.agg #[.int .i64 tA.s.id, .slice tA.As tA.s.cols.length tA.cs, .int .i64 tA.s.next, .int .i64 tA.sid, .slice tA.Af tA.fs.length tA.cf, .slice tA.Ar tA.rs.length tA.cr], .agg #[.slice (some ⟨b, 0, none⟩) 1 1]] w' fun e w'' => e = .returned (.int .i64 (m2 : Int)) ∧ Step w' w'') := by
    intro wa b hb w' _ _
    have := total2 (w0 := X4) (w1 := wa) (ns := [cmpN 2 v]) w' HT1.out HTI.out (pr_cmp hb) HYR.out HYL.out (cmp_pred (by omega) (by omega)) (cmp_check (by omega) (by omega))
    rw [HM2.out] at this
    exact this
  have AP1 : Hid (∀ {wa : World} {b : Nat}, Blk wa b 77 [.int .i64 1, .string ⟨#[97]⟩, .int .i64 2, .int .i64 1, .int .i64 v, .bool false, .string ⟨#[]⟩, .int .i64 0, .int .i64 0] → ∀ (w' : World) [Fut X4 w'] [Fut wa w'], Calls Tryz.prog 13 #[.agg #[.int .i64 tA.s.id, .slice tA.As tA.s.cols.length tA.cs, .int .i64 tA.s.next, .int .i64 tA.sid, .slice tA.Af tA.fs.length tA.cf, .slice tA.Ar tA.rs.length tA.cr], .agg #[.int .i64 3, .string ⟨#[]⟩, .slice none 0 0, .slice none 0 0, .slice (some ⟨b, 0, none⟩) 1 1, .string ⟨#[97]⟩, .string ⟨#[]⟩, .int .i64 0, .int .i64 1, .int .i64 w_, .bool false, .string ⟨#[]⟩, .slice none 0 0, .int .i64 0, .int .i64 0, .int .i64 0]] w' (ApplyR w' (tab2 (ys.map fun x => if yesN [cmpN 2 v] x = true then w_ else x), 0))) := by
    intro wa b hb w' _ _
    have := applyU (w0 := X4) (w1 := wa) (ns := [cmpN 2 v]) (kv25 w_) w' HT1.out HTI.out (pr_cmp hb) HYL.out (cmp_pred (by omega) (by omega)) (cmp_check (by omega) (by omega)) (kv_value w_) (kv_whole w_) ⟨(by show 0 ≤ 9223372036854775000; decide), HWR.out⟩
    rw [upd2_kv] at this
    exact this
  have AP2 : Hid (∀ (w' : World) [Fut X4 w'], Calls Tryz.prog 13 #[.agg #[.int .i64 tA.s.id, .slice tA.As tA.s.cols.length tA.cs, .int .i64 tA.s.next, .int .i64 tA.sid, .slice tA.Af tA.fs.length tA.cf, .slice tA.Ar tA.rs.length tA.cr], .agg #[.int .i64 3, .string ⟨#[]⟩, .slice none 0 0, .slice none 0 0, .slice none 0 0, .string ⟨#[97]⟩, .string ⟨#[]⟩, .int .i64 0, .int .i64 0, .int .i64 0, .bool false, .string ⟨#[]⟩, .slice none 0 0, .int .i64 0, .int .i64 0, .int .i64 0]] w' (ApplyR w' (tabG (ys.map fun _ => Val.zero), 0))) := by
    intro w' _
    have := applyU (w0 := X4) (w1 := X4) (ns := []) Val.zero w' HT1.out HTI.out (PrIn.none_ X4) HYL.out none_pred none_check zero_value zero_whole1 FineD.zero
    rw [upd2_none] at this
    exact this
  obtain ⟨t0, t1, t2, t3, t4, t5⟩ := At.z6 (HTB.out.fut (w' := X4)).at0
  have lt := (HTB.out.fut (w' := X4)).lt
  refine wp_region_held_drew (S := (fun w' => Step X4 w' ∧ (∀ b o, b < X4.heap.size → w'.cell? ⟨b, o, none⟩ = X4.cell? ⟨b, o, none⟩))) (by kernel_rfl) (by (try dsimp only); (first | exact ⟨hS1, hS2⟩ | exact ⟨Step.of, (bcell (fut _ _)).1⟩)) (fun hHeld => ?_)
  refine wT 0 23 (by assumption) ?_
  refine wT 1 24 (by assumption) ?_
  refine wpAnyH_ready (rs := [2]) (by kernel_rfl) (by simp) ?_
  refine AllReadyH.cons (o := ⟨some 25, _, _, _, _, _⟩) rfl (fun K hK => ?_) AllReadyH.nil
  obtain ⟨hS1, hS2⟩ := hHeld
  go_simp
  (go_at_call 37; (with_reducible refine (cmp25_any _ _ _).mono ?_); rintro e w4 ⟨b4, rfl, HB4_, hsw4⟩; have HB4 := hide HB4_; clear HB4_)
  refine hK.out _ _ (by (try dsimp only); (first | exact ⟨hS1, hS2⟩ | exact ⟨Step.of, (bcell (fut _ _)).1⟩)) (fun hHeld => ?_)
  clear hK K
  (try simp only [Act.put, List.setIfInBounds_toArray, List.set_cons_zero, List.set_cons_succ])
  refine wpAnyH_ready (rs := [3]) (by kernel_rfl) (by simp) ?_
  refine AllReadyH.cons (o := ⟨some 26, _, _, _, _, _⟩) rfl (fun K hK => ?_) AllReadyH.nil
  obtain ⟨hS1, hS2⟩ := hHeld
  go_simp
  (go_at_call 36; (with_reducible refine (TC0.out HB4.out _).mono ?_); rintro e w5 ⟨rfl, hsw5⟩)
  refine hK.out _ _ (by (try dsimp only); (first | exact ⟨hS1, hS2⟩ | exact ⟨Step.of, (bcell (fut _ _)).1⟩)) (fun hHeld => ?_)
  clear hK K
  (try simp only [Act.put, List.setIfInBounds_toArray, List.set_cons_zero, List.set_cons_succ])
  refine wT 4 9 (by assumption) ?_
  refine wpAnyH_done (by kernel_rfl) ?_ _
  clear t0 t1 t2 t3 t4 t5 lt
  obtain ⟨X5, hX5⟩ : ∃ x : World, x = w5 := ⟨_, rfl⟩
  rw [← hX5] at hsw5 ⊢
  clear hX5
  obtain ⟨t0, t1, t2, t3, t4, t5⟩ := At.z6 (HTB.out.fut (w' := X5)).at0
  have lt := (HTB.out.fut (w' := X5)).lt
  go_upto_region 5 with fail
  refine wp_region_held_drew (S := (fun w' => Step X5 w' ∧ (∀ b o, b < X5.heap.size → w'.cell? ⟨b, o, none⟩ = X5.cell? ⟨b, o, none⟩))) (by kernel_rfl) (by (try dsimp only); (first | exact ⟨hS1, hS2⟩ | exact ⟨Step.of, (bcell (fut _ _)).1⟩)) (fun hHeld => ?_)
  refine wT 0 27 (by assumption) ?_
  refine wT 1 28 (by assumption) ?_
  refine wpAnyH_ready (rs := [2]) (by kernel_rfl) (by simp) ?_
  refine AllReadyH.cons (o := ⟨some 29, _, _, _, _, _⟩) rfl (fun K hK => ?_) AllReadyH.nil
  obtain ⟨hS1, hS2⟩ := hHeld
  go_simp
  (go_at_call 37; (with_reducible refine (cmp25_any _ _ _).mono ?_); rintro e v5 ⟨b5, rfl, HB5_, hsv5⟩; have HB5 := hide HB5_; clear HB5_)
  refine hK.out _ _ (by (try dsimp only); (first | exact ⟨hS1, hS2⟩ | exact ⟨Step.of, (bcell (fut _ _)).1⟩)) (fun hHeld => ?_)
  clear hK K
  (try simp only [Act.put, List.setIfInBounds_toArray, List.set_cons_zero, List.set_cons_succ])
  refine wpAnyH_ready (rs := [3]) (by kernel_rfl) (by simp) ?_
  refine AllReadyH.cons (o := ⟨some 30, _, _, _, _, _⟩) rfl (fun K hK => ?_) AllReadyH.nil
  obtain ⟨hS1, hS2⟩ := hHeld
  go_simp
  (go_at_call 36; (with_reducible refine (TC2.out HB5.out _).mono ?_); rintro e w6 ⟨rfl, hsw6⟩)
  refine hK.out _ _ (by (try dsimp only); (first | exact ⟨hS1, hS2⟩ | exact ⟨Step.of, (bcell (fut _ _)).1⟩)) (fun hHeld => ?_)
  clear hK K
  (try simp only [Act.put, List.setIfInBounds_toArray, List.set_cons_zero, List.set_cons_succ])
  refine wT 4 10 (by assumption) ?_
  refine wpAnyH_done (by kernel_rfl) ?_ _
  clear t0 t1 t2 t3 t4 t5 lt
  obtain ⟨X6, hX6⟩ : ∃ x : World, x = w6 := ⟨_, rfl⟩
  rw [← hX6] at hsw6 ⊢
  clear hX6
  obtain ⟨t0, t1, t2, t3, t4, t5⟩ := At.z6 (HTB.out.fut (w' := X6)).at0
  have lt := (HTB.out.fut (w' := X6)).lt
  by_cases hwv : w_ < v
  · have HBT : Hid ((if w_ < v then (m0 : Int) else 0) = (m0 : Int)) := if_pos hwv
    obtain ⟨c_, hc_⟩ : ∃ c : Int, IntKind.i64.wrap ((m0 : Int) + (m2 : Int)) = c := ⟨_, rfl⟩
    obtain ⟨d_, hd_⟩ : ∃ d : Int, IntKind.i64.wrap (c_ - (m0 : Int)) = d := ⟨_, rfl⟩
    have HWP : Hid (IntKind.i64.wrap ((m0 : Int) + (m2 : Int)) = c_ ∧ IntKind.i64.wrap (c_ - (m0 : Int)) = d_ ∧ d_ = (m0 : Int) + (m2 : Int) - (m0 : Int)) := by
      refine ⟨hc_, hd_, ?_⟩
      rw [IntKind.wrap_i64] at hc_ hd_
      omega
    clear hc_ hd_
    have hwd : decide (w_ < v) = true := decide_eq_true hwv
    go_upto_region 9 with fail
    clear hwv hwd
    refine wp_region_held_drew (S := (fun w' => Step X6 w' ∧ (∀ b o, b < X6.heap.size → w'.cell? ⟨b, o, none⟩ = X6.cell? ⟨b, o, none⟩))) (by kernel_rfl) (by (try dsimp only); (first | exact ⟨hS1, hS2⟩ | exact ⟨Step.of, (bcell (fut _ _)).1⟩)) (fun hHeld => ?_)
    refine wT 0 36 (by assumption) ?_
    refine wT 1 37 (by assumption) ?_
    refine wT 3 39 (by assumption) ?_
    refine wT 4 40 (by assumption) ?_
    refine wpAnyH_ready (rs := [2, 10]) (by kernel_rfl) (by simp) ?_
    refine AllReadyH.cons (o := ⟨some 38, _, _, _, _, _⟩) rfl (fun K hK => ?_) (AllReadyH.cons (o := ⟨some 12, _, _, _, _, _⟩) rfl (fun K hK => ?_) AllReadyH.nil)
    · obtain ⟨hS1, hS2⟩ := hHeld
      go_simp
      (go_at_call 37; (with_reducible refine (cmp25_any _ _ _).mono ?_); rintro e w7 ⟨b7, rfl, HB7_, hsw7⟩; have HB7 := hide HB7_; clear HB7_; try (clear z0 z1 z2 z3 z4 z5 lz fz; obtain ⟨z0, z1, z2, z3, z4, z5⟩ := At.z6 (HZ9.out.fut (w' := w7)).at0; have lz := (HZ9.out.fut (w' := w7)).lt; have fz := (HZ9.out.fut (w' := w7)).free))
      refine hK.out _ _ (by (try dsimp only); (first | exact ⟨hS1, hS2⟩ | exact ⟨Step.of, (bcell (fut _ _)).1⟩)) (fun hHeld => ?_)
      clear hK K
      (try simp only [Act.put, List.setIfInBounds_toArray, List.set_cons_zero, List.set_cons_succ])
      refine wT 5 41 (by assumption) ?_
      refine wpAnyH_ready (rs := [6, 10]) (by kernel_rfl) (by simp) ?_
      refine AllReadyH.cons (o := ⟨some 42, _, _, _, _, _⟩) rfl (fun K hK => ?_) (AllReadyH.cons (o := ⟨some 12, _, _, _, _, _⟩) rfl (fun K hK => ?_) AllReadyH.nil)
      · obtain ⟨hS1, hS2⟩ := hHeld
        go_simp
        (go_at_call 13; (with_reducible refine (AP1.out HB7.out _).mono ?_); rintro e w8 ⟨tB, rfl, ht2, ho2, hs8⟩; have HT2 := hide ht2; have HO2 := hide ho2; clear ht2 ho2; try (clear z0 z1 z2 z3 z4 z5 lz fz; obtain ⟨z0, z1, z2, z3, z4, z5⟩ := At.z6 (HZ9.out.fut (w' := w8)).at0; have lz := (HZ9.out.fut (w' := w8)).lt; have fz := (HZ9.out.fut (w' := w8)).free))
        refine hK.out _ _ (by (try dsimp only); (first | exact ⟨hS1, hS2⟩ | exact ⟨Step.of, (bcell (fut _ _)).1⟩)) (fun hHeld => ?_)
        clear hK K
        refine wT 7 35 (by assumption) ?_
        refine wT 8 43 (by assumption) ?_
        refine wT 9 44 (by assumption) ?_
        refine wpAnyH_ready (rs := [10]) (by kernel_rfl) (by simp) ?_
        refine AllReadyH.cons (o := ⟨some 12, _, _, _, _, _⟩) rfl (fun K hK => ?_) AllReadyH.nil
        go_simp
        first | (have HZ9 := hide (Blk.new w8 [.int .i64 0, .slice none 0 0, .int .i64 0, .int .i64 0, .slice none 0 0, .slice none 0 0] 30)) | (have HZ9 := hide (Blk.new w7 [.int .i64 0, .slice none 0 0, .int .i64 0, .int .i64 0, .slice none 0 0, .slice none 0 0] 30)) | (have HZ9 := hide (Blk.new X6 [.int .i64 0, .slice none 0 0, .int .i64 0, .int .i64 0, .slice none 0 0, .slice none 0 0] 30))
        obtain ⟨z0, z1, z2, z3, z4, z5⟩ := At.z6 HZ9.out.at0
        have lz := HZ9.out.lt
        have fz := HZ9.out.free
        refine hK.out _ _ (by (try dsimp only); (first | exact ⟨hS1, hS2⟩ | exact ⟨Step.of, (bcell (fut _ _)).1⟩)) (fun hHeld => ?_)
        clear hK K
        refine wpAnyH_ready (rs := [11]) (by kernel_rfl) (by simp) ?_
        refine AllReadyH.cons (o := ⟨none, _, _, _, _, _⟩) rfl (fun K hK => ?_) AllReadyH.nil
        go_simp
        refine hK.out _ _ (by (try dsimp only); (constructor; exact Step.of; intro b o h; exact (fut X6 _).cell (p := ⟨b, o, none⟩) h)) (fun hHeld => ?_)
        clear hK K
        (try simp only [Act.put, List.setIfInBounds_toArray, List.set_cons_zero, List.set_cons_succ])
        refine wT 12 13 (by assumption) ?_
        refine wpAnyH_done (by kernel_rfl) ?_ _
        go_upto_region 10 with fail
        obtain ⟨X8, hX8⟩ : ∃ x : World, x = w8.alloc (.cells #[.int .i64 tB.s.id, .slice tB.As tB.s.cols.length tB.cs, .int .i64 tB.s.next, .int .i64 tB.sid, .slice tB.Af tB.fs.length tB.cf, .slice tB.Ar tB.rs.length tB.cr] 30) := ⟨_, rfl⟩
        have HTB2 := hide (show Blk X8 w8.heap.size 30 [.int .i64 tB.s.id, .slice tB.As tB.s.cols.length tB.cs, .int .i64 tB.s.next, .int .i64 tB.sid, .slice tB.Af tB.fs.length tB.cf, .slice tB.Ar tB.rs.length tB.cr] by rw [hX8]; exact Blk.new w8 _ 30)
        have SX8' : Step w8 X8 := by rw [hX8]; exact Step.of
        have HO8 := hide (show TbOwnR X8 _ tB from HO2.out.fut)
        have SX8 : Step X6 X8 := ⟨fut X6 X8⟩
        rw [← hX8]
        clear hX8 SX8' z0 z1 z2 z3 z4 z5 lz fz
        have HFL : Hid ((ys.map fun x => if yesN [cmpN 2 v] x = true then w_ else x).length ≤ 20) := by show _ ≤ _; rw [List.length_map]; exact HYL.out
        have HFR : Hid (∀ x ∈ ys.map (fun x => if yesN [cmpN 2 v] x = true then w_ else x), -9223372036854775808 ≤ x ∧ x ≤ 9223372036854775807) := fun x hx => by
          obtain ⟨y, hy, rfl⟩ := List.mem_map.1 hx
          split
          · exact HWR.out
          · exact HYR.out y hy
        have HTI2 : Hid (TbIn X8 tB) := tb_in HO8.out (by rw [HT2.out]; exact tab2_may HFL.out)
        have TU1 : Hid (∀ {wa : World} {b : Nat}, Blk wa b 77 [.int .i64 1, .string ⟨#[97]⟩, .int .i64 0, .int .i64 1, .int .i64 w_, .bool false, .string ⟨#[]⟩, .int .i64 0, .int .i64 0] → ∀ (w' : World) [Fut X8 w'] [Fut wa w'], Calls Tryz.prog 36 #[.agg #[.int .i64 tB.s.id, .slice tB.As tB.s.cols.length tB.cs, .int .i64 tB.s.next, .int .i64 tB.sid, .slice tB.Af tB.fs.length tB.cf, .slice tB.Ar tB.rs.length tB.cr], .agg #[.slice (some ⟨b, 0, none⟩) 1 1]] w' fun e w'' => e = .returned (.int .i64 d_) ∧ Step w' w'') := by
          intro wa b hb w' _ _
          have := total2 (w0 := X8) (w1 := wa) (ns := [cmpN 0 w_]) w' HT2.out HTI2.out (pr_cmp hb) HFR.out HFL.out (cmp_pred (by omega) (by omega)) (cmp_check (by omega) (by omega))
          rw [upd_count, HM0.out, HM2.out, HBT.out, ← HWP.out.2.2] at this
          exact this
        obtain ⟨t0, t1, t2, t3, t4, t5⟩ := At.z6 (HTB.out.fut (w' := X8)).at0
        have lt := (HTB.out.fut (w' := X8)).lt
        go_upto_region 11 with (go_at_call 13; (with_reducible refine (AP2.out _).mono ?_); rintro e w9 ⟨tC, rfl, ht3, ho3, hs9⟩; have HT3 := hide ht3; have HO3 := hide ho3; clear ht3 ho3)
        obtain ⟨X9, hX9⟩ : ∃ x : World, x = w9.alloc (.cells #[.int .i64 tC.s.id, .slice tC.As tC.s.cols.length tC.cs, .int .i64 tC.s.next, .int .i64 tC.sid, .slice tC.Af tC.fs.length tC.cf, .slice tC.Ar tC.rs.length tC.cr] 30) := ⟨_, rfl⟩
        have SX9 : Step w9 X9 := by rw [hX9]; exact Step.of
        have HTB3 : Hid (Blk X9 w9.heap.size 30 [.int .i64 tC.s.id, .slice tC.As tC.s.cols.length tC.cs, .int .i64 tC.s.next, .int .i64 tC.sid, .slice tC.Af tC.fs.length tC.cf, .slice tC.Ar tC.rs.length tC.cr]) := by rw [hX9]; exact Blk.new w9 _ 30
        have HO9 : Hid (TbOwnR X9 _ tC) := HO3.out.fut
        rw [← hX9]
        clear hX9 t0 t1 t2 t3 t4 t5 lt
        have HTI3 : Hid (TbIn X9 tC) := tb_in HO9.out (by rw [HT3.out]; exact tabG_may (by rw [List.length_map]; exact HYL.out) (zeros_ok ys))
        have TU0 : Hid (∀ (w' : World) [Fut X9 w'], Calls Tryz.prog 36 #[.agg #[.int .i64 tC.s.id, .slice tC.As tC.s.cols.length tC.cs, .int .i64 tC.s.next, .int .i64 tC.sid, .slice tC.Af tC.fs.length tC.cf, .slice tC.Ar tC.rs.length tC.cr], .agg #[.slice none 0 0]] w' fun e w'' => e = .returned (.int .i64 0) ∧ Step w' w'') := fun w' _ => by
          have := total_any (w0 := X9) (w1 := X9) tC [] none 0 w' HTI3.out (PrIn.none_ X9) (by
            intro vs hvs u hu
            rw [HT3.out] at hvs
            obtain ⟨y, hy, rfl⟩ := List.mem_map.1 hvs
            obtain ⟨_, _, rfl⟩ := List.mem_map.1 hy
            simp only [rowG, List.mem_cons, List.not_mem_nil, or_false] at hu
            rcases hu with rfl | rfl <;> exact FineD.zero)
          rw [HT3.out, count0 HYL.out] at this
          exact this
        have hlb : ((tB.rs.length : Int) == (tA.rs.length : Int)) = true := by
          have h1 := congrArg (fun q => q.rows.length) HT2.out
          have h2 := congrArg (fun q => q.rows.length) HT1.out
          simp only [TbA.tb, tab2, List.length_map] at h1 h2
          rw [beq_iff_eq]; omega
        have hlc : ((tC.rs.length : Int) == (tA.rs.length : Int)) = true := by
          have h1 := congrArg (fun q => q.rows.length) HT3.out
          have h2 := congrArg (fun q => q.rows.length) HT1.out
          simp only [TbA.tb, tab2, tabG, List.length_map] at h1 h2
          rw [beq_iff_eq]; omega
        obtain ⟨t0, t1, t2, t3, t4, t5⟩ := At.z6 (HTB2.out.fut (w' := X9)).at0
        have lt := (HTB2.out.fut (w' := X9)).lt
        obtain ⟨p0, p1, p2, p3, p4, p5⟩ := At.z6 (HTB3.out.fut (w' := X9)).at0
        have lp := (HTB3.out.fut (w' := X9)).lt
        obtain ⟨q0, q1, q2, q3, q4, q5⟩ := At.z6 (HTB.out.fut (w' := X9)).at0
        have lq := (HTB.out.fut (w' := X9)).lt
        have hw1 := HWP.out.1
        have hw2 := HWP.out.2.1
        clear AP1 AP2 TC0 TC2 HTI HTI2 HTI3 HO8 HO9 HTB HTB2 HTB3 HM0 HM2 HBT HWP HYL HYR HYF HWR HT1 HT2 HT3 HFL HFR FC HO1 HO2 HO3 HB4 HB5 HB7 hb0 hb2
        refine wp_region_held_drew (S := (fun w' => Step X9 w' ∧ (∀ b o, b < X9.heap.size → w'.cell? ⟨b, o, none⟩ = X9.cell? ⟨b, o, none⟩))) (by kernel_rfl) (by (try dsimp only); (first | exact ⟨hS1, hS2⟩ | exact ⟨Step.of, (bcell (fut _ _)).1⟩)) (fun hHeld => ?_)
        refine wT 0 51 (by assumption) ?_
        refine wT 1 52 (by assumption) ?_
        refine wT 2 53 (by assumption) ?_
        refine wT 3 54 (by assumption) ?_
        refine wT 4 55 (by assumption) ?_
        refine wT 5 56 (by assumption) ?_
        refine wT 6 57 (by assumption) ?_
        refine wT 7 58 (by assumption) ?_
        refine wT 10 61 (by assumption) ?_
        refine wT 11 62 (by assumption) ?_
        refine wT 13 64 (by assumption) ?_
        refine wT 12 63 (by assumption) ?_
        refine wT 14 65 (by assumption) ?_
        refine wpAnyH_ready (rs := [8]) (by kernel_rfl) (by simp) ?_
        refine AllReadyH.cons (o := ⟨some 59, _, _, _, _, _⟩) rfl (fun K hK => ?_) AllReadyH.nil
        obtain ⟨hS1, hS2⟩ := hHeld
        go_simp
        (go_at_call 37; (with_reducible refine (cmp25_any _ _ _).mono ?_); rintro e w11 ⟨b11, rfl, HB11_, hsw11⟩; have HB11 := hide HB11_; clear HB11_)
        refine hK.out _ _ (by (try dsimp only); (first | exact ⟨hS1, hS2⟩ | exact ⟨Step.of, (bcell (fut _ _)).1⟩)) (fun hHeld => ?_)
        clear hK K
        (try simp only [Act.put, List.setIfInBounds_toArray, List.set_cons_zero, List.set_cons_succ])
        refine wpAnyH_ready (rs := [9]) (by kernel_rfl) (by simp) ?_
        refine AllReadyH.cons (o := ⟨some 60, _, _, _, _, _⟩) rfl (fun K hK => ?_) AllReadyH.nil
        obtain ⟨hS1, hS2⟩ := hHeld
        go_simp
        (go_at_call 36; (with_reducible refine (TU1.out HB11.out _).mono ?_); rintro e w12 ⟨rfl, hsw12⟩)
        refine hK.out _ _ (by (try dsimp only); (first | exact ⟨hS1, hS2⟩ | exact ⟨Step.of, (bcell (fut _ _)).1⟩)) (fun hHeld => ?_)
        clear hK K
        (try simp only [Act.put, List.setIfInBounds_toArray, List.set_cons_zero, List.set_cons_succ])
        refine wT 15 66 (by assumption) ?_
        refine wT 16 67 (by assumption) ?_
        refine wT 17 68 (by assumption) ?_
        refine wT 18 69 (by assumption) ?_
        refine wT 21 72 (by assumption) ?_
        refine wT 19 70 (by assumption) ?_
        refine wT 22 73 (by assumption) ?_
        refine wT 20 71 (by assumption) ?_
        refine wT 23 74 (by assumption) ?_
        refine wT 24 75 (by assumption) ?_
        refine wT 25 76 (by assumption) ?_
        refine wT 26 77 (by assumption) ?_
        refine wT 27 78 (by assumption) ?_
        refine wT 28 79 (by assumption) ?_
        refine wT 29 80 (by assumption) ?_
        refine wT 30 81 (by assumption) ?_
        refine wT 31 82 (by assumption) ?_
        refine wT 32 83 (by assumption) ?_
        refine wpAnyH_ready (rs := [33]) (by kernel_rfl) (by simp) ?_
        refine AllReadyH.cons (o := ⟨some 84, _, _, _, _, _⟩) rfl (fun K hK => ?_) AllReadyH.nil
        obtain ⟨hS1, hS2⟩ := hHeld
        go_simp
        (go_at_call 36; (with_reducible refine (TU0.out _).mono ?_); rintro e w13 ⟨rfl, hsw13⟩)
        refine hK.out _ _ (by (try dsimp only); (first | exact ⟨hS1, hS2⟩ | exact ⟨Step.of, (bcell (fut _ _)).1⟩)) (fun hHeld => ?_)
        clear hK K
        (try simp only [Act.put, List.setIfInBounds_toArray, List.set_cons_zero, List.set_cons_succ])
        refine wT 34 85 (by assumption) ?_
        refine wT 35 86 (by assumption) ?_
        refine wT 36 87 (by assumption) ?_
        refine wT 37 88 (by assumption) ?_
        refine wT 40 91 (by assumption) ?_
        refine wT 38 89 (by assumption) ?_
        refine wT 41 92 (by assumption) ?_
        refine wT 39 90 (by assumption) ?_
        refine wT 42 93 (by assumption) ?_
        refine wT 43 94 (by assumption) ?_
        refine wT 44 95 (by assumption) ?_
        refine wT 45 6 (by assumption) ?_
        refine wpAnyH_done (by kernel_rfl) ?_ _
        go_wp2_with fail
        go_ret
        exact ⟨rfl, Step.of⟩
      · go_simp
        first | (have HZ9 := hide (Blk.new w8 [.int .i64 0, .slice none 0 0, .int .i64 0, .int .i64 0, .slice none 0 0, .slice none 0 0] 30)) | (have HZ9 := hide (Blk.new w7 [.int .i64 0, .slice none 0 0, .int .i64 0, .int .i64 0, .slice none 0 0, .slice none 0 0] 30)) | (have HZ9 := hide (Blk.new X6 [.int .i64 0, .slice none 0 0, .int .i64 0, .int .i64 0, .slice none 0 0, .slice none 0 0] 30))
        obtain ⟨z0, z1, z2, z3, z4, z5⟩ := At.z6 HZ9.out.at0
        have lz := HZ9.out.lt
        have fz := HZ9.out.free
        refine hK.out _ _ (by (try dsimp only); (first | exact ⟨hS1, hS2⟩ | exact ⟨Step.of, (bcell (fut _ _)).1⟩)) (fun hHeld => ?_)
        clear hK K
        refine wpAnyH_ready (rs := [6]) (by kernel_rfl) (by simp) ?_
        refine AllReadyH.cons (o := ⟨some 42, _, _, _, _, _⟩) rfl (fun K hK => ?_) AllReadyH.nil
        obtain ⟨hS1, hS2⟩ := hHeld
        go_simp
        (go_at_call 13; (with_reducible refine (AP1.out HB7.out _).mono ?_); rintro e w8 ⟨tB, rfl, ht2, ho2, hs8⟩; have HT2 := hide ht2; have HO2 := hide ho2; clear ht2 ho2; try (clear z0 z1 z2 z3 z4 z5 lz fz; obtain ⟨z0, z1, z2, z3, z4, z5⟩ := At.z6 (HZ9.out.fut (w' := w8)).at0; have lz := (HZ9.out.fut (w' := w8)).lt; have fz := (HZ9.out.fut (w' := w8)).free))
        refine hK.out _ _ (by (try dsimp only); (first | exact ⟨hS1, hS2⟩ | exact ⟨Step.of, (bcell (fut _ _)).1⟩)) (fun hHeld => ?_)
        clear hK K
        refine wT 7 35 (by assumption) ?_
        refine wT 8 43 (by assumption) ?_
        refine wT 9 44 (by assumption) ?_
        refine wpAnyH_ready (rs := [11]) (by kernel_rfl) (by simp) ?_
        refine AllReadyH.cons (o := ⟨none, _, _, _, _, _⟩) rfl (fun K hK => ?_) AllReadyH.nil
        go_simp
        refine hK.out _ _ (by (try dsimp only); (constructor; exact Step.of; intro b o h; exact (fut X6 _).cell (p := ⟨b, o, none⟩) h)) (fun hHeld => ?_)
        clear hK K
        (try simp only [Act.put, List.setIfInBounds_toArray, List.set_cons_zero, List.set_cons_succ])
        refine wT 12 13 (by assumption) ?_
        refine wpAnyH_done (by kernel_rfl) ?_ _
        go_upto_region 10 with fail
        obtain ⟨X8, hX8⟩ : ∃ x : World, x = set6D w8 w7.heap.size (.int .i64 tB.s.id) (.slice tB.As tB.s.cols.length tB.cs) (.int .i64 tB.s.next) (.int .i64 tB.sid) (.slice tB.Af tB.fs.length tB.cf) (.slice tB.Ar tB.rs.length tB.cr) := ⟨_, rfl⟩
        have HTB2 := hide (show Blk X8 w7.heap.size 30 [.int .i64 tB.s.id, .slice tB.As tB.s.cols.length tB.cs, .int .i64 tB.s.next, .int .i64 tB.sid, .slice tB.Af tB.fs.length tB.cf, .slice tB.Ar tB.rs.length tB.cr] by rw [hX8]; exact set6D_blk (HZ9.out.fut (w' := w8)) (.int .i64 tB.s.id) (.slice tB.As tB.s.cols.length tB.cs) (.int .i64 tB.s.next) (.int .i64 tB.sid) (.slice tB.Af tB.fs.length tB.cf) (.slice tB.Ar tB.rs.length tB.cr))
        have HO8 := hide (show TbOwnR X8 _ tB by rw [hX8]; exact HO2.out.set6 (HZ9.out.fut (w' := w8)) (.int .i64 tB.s.id) (.slice tB.As tB.s.cols.length tB.cs) (.int .i64 tB.s.next) (.int .i64 tB.sid) (.slice tB.Af tB.fs.length tB.cf) (.slice tB.Ar tB.rs.length tB.cr))
        have SX8 : Step X6 X8 := by rw [hX8]; exact ⟨set6D_below (fut X6 w8) (fut X6 w7).size (.int .i64 tB.s.id) (.slice tB.As tB.s.cols.length tB.cs) (.int .i64 tB.s.next) (.int .i64 tB.sid) (.slice tB.Af tB.fs.length tB.cf) (.slice tB.Ar tB.rs.length tB.cr)⟩
        unfold set6D at hX8
        rw [← hX8]
        clear hX8 z0 z1 z2 z3 z4 z5 lz fz
        have HFL : Hid ((ys.map fun x => if yesN [cmpN 2 v] x = true then w_ else x).length ≤ 20) := by show _ ≤ _; rw [List.length_map]; exact HYL.out
        have HFR : Hid (∀ x ∈ ys.map (fun x => if yesN [cmpN 2 v] x = true then w_ else x), -9223372036854775808 ≤ x ∧ x ≤ 9223372036854775807) := fun x hx => by
          obtain ⟨y, hy, rfl⟩ := List.mem_map.1 hx
          split
          · exact HWR.out
          · exact HYR.out y hy
        have HTI2 : Hid (TbIn X8 tB) := tb_in HO8.out (by rw [HT2.out]; exact tab2_may HFL.out)
        have TU1 : Hid (∀ {wa : World} {b : Nat}, Blk wa b 77 [.int .i64 1, .string ⟨#[97]⟩, .int .i64 0, .int .i64 1, .int .i64 w_, .bool false, .string ⟨#[]⟩, .int .i64 0, .int .i64 0] → ∀ (w' : World) [Fut X8 w'] [Fut wa w'], Calls Tryz.prog 36 #[.agg #[.int .i64 tB.s.id, .slice tB.As tB.s.cols.length tB.cs, .int .i64 tB.s.next, .int .i64 tB.sid, .slice tB.Af tB.fs.length tB.cf, .slice tB.Ar tB.rs.length tB.cr], .agg #[.slice (some ⟨b, 0, none⟩) 1 1]] w' fun e w'' => e = .returned (.int .i64 d_) ∧ Step w' w'') := by
          intro wa b hb w' _ _
          have := total2 (w0 := X8) (w1 := wa) (ns := [cmpN 0 w_]) w' HT2.out HTI2.out (pr_cmp hb) HFR.out HFL.out (cmp_pred (by omega) (by omega)) (cmp_check (by omega) (by omega))
          rw [upd_count, HM0.out, HM2.out, HBT.out, ← HWP.out.2.2] at this
          exact this
        obtain ⟨t0, t1, t2, t3, t4, t5⟩ := At.z6 (HTB.out.fut (w' := X8)).at0
        have lt := (HTB.out.fut (w' := X8)).lt
        go_upto_region 11 with (go_at_call 13; (with_reducible refine (AP2.out _).mono ?_); rintro e w9 ⟨tC, rfl, ht3, ho3, hs9⟩; have HT3 := hide ht3; have HO3 := hide ho3; clear ht3 ho3)
        obtain ⟨X9, hX9⟩ : ∃ x : World, x = w9.alloc (.cells #[.int .i64 tC.s.id, .slice tC.As tC.s.cols.length tC.cs, .int .i64 tC.s.next, .int .i64 tC.sid, .slice tC.Af tC.fs.length tC.cf, .slice tC.Ar tC.rs.length tC.cr] 30) := ⟨_, rfl⟩
        have SX9 : Step w9 X9 := by rw [hX9]; exact Step.of
        have HTB3 : Hid (Blk X9 w9.heap.size 30 [.int .i64 tC.s.id, .slice tC.As tC.s.cols.length tC.cs, .int .i64 tC.s.next, .int .i64 tC.sid, .slice tC.Af tC.fs.length tC.cf, .slice tC.Ar tC.rs.length tC.cr]) := by rw [hX9]; exact Blk.new w9 _ 30
        have HO9 : Hid (TbOwnR X9 _ tC) := HO3.out.fut
        rw [← hX9]
        clear hX9 t0 t1 t2 t3 t4 t5 lt
        have HTI3 : Hid (TbIn X9 tC) := tb_in HO9.out (by rw [HT3.out]; exact tabG_may (by rw [List.length_map]; exact HYL.out) (zeros_ok ys))
        have TU0 : Hid (∀ (w' : World) [Fut X9 w'], Calls Tryz.prog 36 #[.agg #[.int .i64 tC.s.id, .slice tC.As tC.s.cols.length tC.cs, .int .i64 tC.s.next, .int .i64 tC.sid, .slice tC.Af tC.fs.length tC.cf, .slice tC.Ar tC.rs.length tC.cr], .agg #[.slice none 0 0]] w' fun e w'' => e = .returned (.int .i64 0) ∧ Step w' w'') := fun w' _ => by
          have := total_any (w0 := X9) (w1 := X9) tC [] none 0 w' HTI3.out (PrIn.none_ X9) (by
            intro vs hvs u hu
            rw [HT3.out] at hvs
            obtain ⟨y, hy, rfl⟩ := List.mem_map.1 hvs
            obtain ⟨_, _, rfl⟩ := List.mem_map.1 hy
            simp only [rowG, List.mem_cons, List.not_mem_nil, or_false] at hu
            rcases hu with rfl | rfl <;> exact FineD.zero)
          rw [HT3.out, count0 HYL.out] at this
          exact this
        have hlb : ((tB.rs.length : Int) == (tA.rs.length : Int)) = true := by
          have h1 := congrArg (fun q => q.rows.length) HT2.out
          have h2 := congrArg (fun q => q.rows.length) HT1.out
          simp only [TbA.tb, tab2, List.length_map] at h1 h2
          rw [beq_iff_eq]; omega
        have hlc : ((tC.rs.length : Int) == (tA.rs.length : Int)) = true := by
          have h1 := congrArg (fun q => q.rows.length) HT3.out
          have h2 := congrArg (fun q => q.rows.length) HT1.out
          simp only [TbA.tb, tab2, tabG, List.length_map] at h1 h2
          rw [beq_iff_eq]; omega
        obtain ⟨t0, t1, t2, t3, t4, t5⟩ := At.z6 (HTB2.out.fut (w' := X9)).at0
        have lt := (HTB2.out.fut (w' := X9)).lt
        obtain ⟨p0, p1, p2, p3, p4, p5⟩ := At.z6 (HTB3.out.fut (w' := X9)).at0
        have lp := (HTB3.out.fut (w' := X9)).lt
        obtain ⟨q0, q1, q2, q3, q4, q5⟩ := At.z6 (HTB.out.fut (w' := X9)).at0
        have lq := (HTB.out.fut (w' := X9)).lt
        have hw1 := HWP.out.1
        have hw2 := HWP.out.2.1
        clear AP1 AP2 TC0 TC2 HTI HTI2 HTI3 HO8 HO9 HTB HTB2 HTB3 HM0 HM2 HBT HWP HYL HYR HYF HWR HT1 HT2 HT3 HFL HFR FC HO1 HO2 HO3 HB4 HB5 HB7 hb0 hb2
        refine wp_region_held_drew (S := (fun w' => Step X9 w' ∧ (∀ b o, b < X9.heap.size → w'.cell? ⟨b, o, none⟩ = X9.cell? ⟨b, o, none⟩))) (by kernel_rfl) (by (try dsimp only); (first | exact ⟨hS1, hS2⟩ | exact ⟨Step.of, (bcell (fut _ _)).1⟩)) (fun hHeld => ?_)
        refine wT 0 51 (by assumption) ?_
        refine wT 1 52 (by assumption) ?_
        refine wT 2 53 (by assumption) ?_
        refine wT 3 54 (by assumption) ?_
        refine wT 4 55 (by assumption) ?_
        refine wT 5 56 (by assumption) ?_
        refine wT 6 57 (by assumption) ?_
        refine wT 7 58 (by assumption) ?_
        refine wT 10 61 (by assumption) ?_
        refine wT 11 62 (by assumption) ?_
        refine wT 13 64 (by assumption) ?_
        refine wT 12 63 (by assumption) ?_
        refine wT 14 65 (by assumption) ?_
        refine wpAnyH_ready (rs := [8]) (by kernel_rfl) (by simp) ?_
        refine AllReadyH.cons (o := ⟨some 59, _, _, _, _, _⟩) rfl (fun K hK => ?_) AllReadyH.nil
        obtain ⟨hS1, hS2⟩ := hHeld
        go_simp
        (go_at_call 37; (with_reducible refine (cmp25_any _ _ _).mono ?_); rintro e w11 ⟨b11, rfl, HB11_, hsw11⟩; have HB11 := hide HB11_; clear HB11_)
        refine hK.out _ _ (by (try dsimp only); (first | exact ⟨hS1, hS2⟩ | exact ⟨Step.of, (bcell (fut _ _)).1⟩)) (fun hHeld => ?_)
        clear hK K
        (try simp only [Act.put, List.setIfInBounds_toArray, List.set_cons_zero, List.set_cons_succ])
        refine wpAnyH_ready (rs := [9]) (by kernel_rfl) (by simp) ?_
        refine AllReadyH.cons (o := ⟨some 60, _, _, _, _, _⟩) rfl (fun K hK => ?_) AllReadyH.nil
        obtain ⟨hS1, hS2⟩ := hHeld
        go_simp
        (go_at_call 36; (with_reducible refine (TU1.out HB11.out _).mono ?_); rintro e w12 ⟨rfl, hsw12⟩)
        refine hK.out _ _ (by (try dsimp only); (first | exact ⟨hS1, hS2⟩ | exact ⟨Step.of, (bcell (fut _ _)).1⟩)) (fun hHeld => ?_)
        clear hK K
        (try simp only [Act.put, List.setIfInBounds_toArray, List.set_cons_zero, List.set_cons_succ])
        refine wT 15 66 (by assumption) ?_
        refine wT 16 67 (by assumption) ?_
        refine wT 17 68 (by assumption) ?_
        refine wT 18 69 (by assumption) ?_
        refine wT 21 72 (by assumption) ?_
        refine wT 19 70 (by assumption) ?_
        refine wT 22 73 (by assumption) ?_
        refine wT 20 71 (by assumption) ?_
        refine wT 23 74 (by assumption) ?_
        refine wT 24 75 (by assumption) ?_
        refine wT 25 76 (by assumption) ?_
        refine wT 26 77 (by assumption) ?_
        refine wT 27 78 (by assumption) ?_
        refine wT 28 79 (by assumption) ?_
        refine wT 29 80 (by assumption) ?_
        refine wT 30 81 (by assumption) ?_
        refine wT 31 82 (by assumption) ?_
        refine wT 32 83 (by assumption) ?_
        refine wpAnyH_ready (rs := [33]) (by kernel_rfl) (by simp) ?_
        refine AllReadyH.cons (o := ⟨some 84, _, _, _, _, _⟩) rfl (fun K hK => ?_) AllReadyH.nil
        obtain ⟨hS1, hS2⟩ := hHeld
        go_simp
        (go_at_call 36; (with_reducible refine (TU0.out _).mono ?_); rintro e w13 ⟨rfl, hsw13⟩)
        refine hK.out _ _ (by (try dsimp only); (first | exact ⟨hS1, hS2⟩ | exact ⟨Step.of, (bcell (fut _ _)).1⟩)) (fun hHeld => ?_)
        clear hK K
        (try simp only [Act.put, List.setIfInBounds_toArray, List.set_cons_zero, List.set_cons_succ])
        refine wT 34 85 (by assumption) ?_
        refine wT 35 86 (by assumption) ?_
        refine wT 36 87 (by assumption) ?_
        refine wT 37 88 (by assumption) ?_
        refine wT 40 91 (by assumption) ?_
        refine wT 38 89 (by assumption) ?_
        refine wT 41 92 (by assumption) ?_
        refine wT 39 90 (by assumption) ?_
        refine wT 42 93 (by assumption) ?_
        refine wT 43 94 (by assumption) ?_
        refine wT 44 95 (by assumption) ?_
        refine wT 45 6 (by assumption) ?_
        refine wpAnyH_done (by kernel_rfl) ?_ _
        go_wp2_with fail
        go_ret
        exact ⟨rfl, Step.of⟩
    · go_simp
      first | (have HZ9 := hide (Blk.new w8 [.int .i64 0, .slice none 0 0, .int .i64 0, .int .i64 0, .slice none 0 0, .slice none 0 0] 30)) | (have HZ9 := hide (Blk.new w7 [.int .i64 0, .slice none 0 0, .int .i64 0, .int .i64 0, .slice none 0 0, .slice none 0 0] 30)) | (have HZ9 := hide (Blk.new X6 [.int .i64 0, .slice none 0 0, .int .i64 0, .int .i64 0, .slice none 0 0, .slice none 0 0] 30))
      obtain ⟨z0, z1, z2, z3, z4, z5⟩ := At.z6 HZ9.out.at0
      have lz := HZ9.out.lt
      have fz := HZ9.out.free
      refine hK.out _ _ (by (try dsimp only); (first | exact ⟨hS1, hS2⟩ | exact ⟨Step.of, (bcell (fut _ _)).1⟩)) (fun hHeld => ?_)
      clear hK K
      refine wpAnyH_ready (rs := [2]) (by kernel_rfl) (by simp) ?_
      refine AllReadyH.cons (o := ⟨some 38, _, _, _, _, _⟩) rfl (fun K hK => ?_) AllReadyH.nil
      obtain ⟨hS1, hS2⟩ := hHeld
      go_simp
      (go_at_call 37; (with_reducible refine (cmp25_any _ _ _).mono ?_); rintro e w7 ⟨b7, rfl, HB7_, hsw7⟩; have HB7 := hide HB7_; clear HB7_; try (clear z0 z1 z2 z3 z4 z5 lz fz; obtain ⟨z0, z1, z2, z3, z4, z5⟩ := At.z6 (HZ9.out.fut (w' := w7)).at0; have lz := (HZ9.out.fut (w' := w7)).lt; have fz := (HZ9.out.fut (w' := w7)).free))
      refine hK.out _ _ (by (try dsimp only); (first | exact ⟨hS1, hS2⟩ | exact ⟨Step.of, (bcell (fut _ _)).1⟩)) (fun hHeld => ?_)
      clear hK K
      (try simp only [Act.put, List.setIfInBounds_toArray, List.set_cons_zero, List.set_cons_succ])
      refine wT 5 41 (by assumption) ?_
      refine wpAnyH_ready (rs := [6]) (by kernel_rfl) (by simp) ?_
      refine AllReadyH.cons (o := ⟨some 42, _, _, _, _, _⟩) rfl (fun K hK => ?_) AllReadyH.nil
      obtain ⟨hS1, hS2⟩ := hHeld
      go_simp
      (go_at_call 13; (with_reducible refine (AP1.out HB7.out _).mono ?_); rintro e w8 ⟨tB, rfl, ht2, ho2, hs8⟩; have HT2 := hide ht2; have HO2 := hide ho2; clear ht2 ho2; try (clear z0 z1 z2 z3 z4 z5 lz fz; obtain ⟨z0, z1, z2, z3, z4, z5⟩ := At.z6 (HZ9.out.fut (w' := w8)).at0; have lz := (HZ9.out.fut (w' := w8)).lt; have fz := (HZ9.out.fut (w' := w8)).free))
      refine hK.out _ _ (by (try dsimp only); (first | exact ⟨hS1, hS2⟩ | exact ⟨Step.of, (bcell (fut _ _)).1⟩)) (fun hHeld => ?_)
      clear hK K
      refine wT 7 35 (by assumption) ?_
      refine wT 8 43 (by assumption) ?_
      refine wT 9 44 (by assumption) ?_
      refine wpAnyH_ready (rs := [11]) (by kernel_rfl) (by simp) ?_
      refine AllReadyH.cons (o := ⟨none, _, _, _, _, _⟩) rfl (fun K hK => ?_) AllReadyH.nil
      go_simp
      refine hK.out _ _ (by (try dsimp only); (constructor; exact Step.of; intro b o h; exact (fut X6 _).cell (p := ⟨b, o, none⟩) h)) (fun hHeld => ?_)
      clear hK K
      (try simp only [Act.put, List.setIfInBounds_toArray, List.set_cons_zero, List.set_cons_succ])
      refine wT 12 13 (by assumption) ?_
      refine wpAnyH_done (by kernel_rfl) ?_ _
      go_upto_region 10 with fail
      obtain ⟨X8, hX8⟩ : ∃ x : World, x = set6D w8 X6.heap.size (.int .i64 tB.s.id) (.slice tB.As tB.s.cols.length tB.cs) (.int .i64 tB.s.next) (.int .i64 tB.sid) (.slice tB.Af tB.fs.length tB.cf) (.slice tB.Ar tB.rs.length tB.cr) := ⟨_, rfl⟩
      have HTB2 := hide (show Blk X8 X6.heap.size 30 [.int .i64 tB.s.id, .slice tB.As tB.s.cols.length tB.cs, .int .i64 tB.s.next, .int .i64 tB.sid, .slice tB.Af tB.fs.length tB.cf, .slice tB.Ar tB.rs.length tB.cr] by rw [hX8]; exact set6D_blk (HZ9.out.fut (w' := w8)) (.int .i64 tB.s.id) (.slice tB.As tB.s.cols.length tB.cs) (.int .i64 tB.s.next) (.int .i64 tB.sid) (.slice tB.Af tB.fs.length tB.cf) (.slice tB.Ar tB.rs.length tB.cr))
      have HO8 := hide (show TbOwnR X8 _ tB by rw [hX8]; exact HO2.out.set6 (HZ9.out.fut (w' := w8)) (.int .i64 tB.s.id) (.slice tB.As tB.s.cols.length tB.cs) (.int .i64 tB.s.next) (.int .i64 tB.sid) (.slice tB.Af tB.fs.length tB.cf) (.slice tB.Ar tB.rs.length tB.cr))
      have SX8 : Step X6 X8 := by rw [hX8]; exact ⟨set6D_below (fut X6 w8) (Nat.le_refl _) (.int .i64 tB.s.id) (.slice tB.As tB.s.cols.length tB.cs) (.int .i64 tB.s.next) (.int .i64 tB.sid) (.slice tB.Af tB.fs.length tB.cf) (.slice tB.Ar tB.rs.length tB.cr)⟩
      unfold set6D at hX8
      rw [← hX8]
      clear hX8 z0 z1 z2 z3 z4 z5 lz fz
      have HFL : Hid ((ys.map fun x => if yesN [cmpN 2 v] x = true then w_ else x).length ≤ 20) := by show _ ≤ _; rw [List.length_map]; exact HYL.out
      have HFR : Hid (∀ x ∈ ys.map (fun x => if yesN [cmpN 2 v] x = true then w_ else x), -9223372036854775808 ≤ x ∧ x ≤ 9223372036854775807) := fun x hx => by
        obtain ⟨y, hy, rfl⟩ := List.mem_map.1 hx
        split
        · exact HWR.out
        · exact HYR.out y hy
      have HTI2 : Hid (TbIn X8 tB) := tb_in HO8.out (by rw [HT2.out]; exact tab2_may HFL.out)
      have TU1 : Hid (∀ {wa : World} {b : Nat}, Blk wa b 77 [.int .i64 1, .string ⟨#[97]⟩, .int .i64 0, .int .i64 1, .int .i64 w_, .bool false, .string ⟨#[]⟩, .int .i64 0, .int .i64 0] → ∀ (w' : World) [Fut X8 w'] [Fut wa w'], Calls Tryz.prog 36 #[.agg #[.int .i64 tB.s.id, .slice tB.As tB.s.cols.length tB.cs, .int .i64 tB.s.next, .int .i64 tB.sid, .slice tB.Af tB.fs.length tB.cf, .slice tB.Ar tB.rs.length tB.cr], .agg #[.slice (some ⟨b, 0, none⟩) 1 1]] w' fun e w'' => e = .returned (.int .i64 d_) ∧ Step w' w'') := by
        intro wa b hb w' _ _
        have := total2 (w0 := X8) (w1 := wa) (ns := [cmpN 0 w_]) w' HT2.out HTI2.out (pr_cmp hb) HFR.out HFL.out (cmp_pred (by omega) (by omega)) (cmp_check (by omega) (by omega))
        rw [upd_count, HM0.out, HM2.out, HBT.out, ← HWP.out.2.2] at this
        exact this
      obtain ⟨t0, t1, t2, t3, t4, t5⟩ := At.z6 (HTB.out.fut (w' := X8)).at0
      have lt := (HTB.out.fut (w' := X8)).lt
      go_upto_region 11 with (go_at_call 13; (with_reducible refine (AP2.out _).mono ?_); rintro e w9 ⟨tC, rfl, ht3, ho3, hs9⟩; have HT3 := hide ht3; have HO3 := hide ho3; clear ht3 ho3)
      obtain ⟨X9, hX9⟩ : ∃ x : World, x = w9.alloc (.cells #[.int .i64 tC.s.id, .slice tC.As tC.s.cols.length tC.cs, .int .i64 tC.s.next, .int .i64 tC.sid, .slice tC.Af tC.fs.length tC.cf, .slice tC.Ar tC.rs.length tC.cr] 30) := ⟨_, rfl⟩
      have SX9 : Step w9 X9 := by rw [hX9]; exact Step.of
      have HTB3 : Hid (Blk X9 w9.heap.size 30 [.int .i64 tC.s.id, .slice tC.As tC.s.cols.length tC.cs, .int .i64 tC.s.next, .int .i64 tC.sid, .slice tC.Af tC.fs.length tC.cf, .slice tC.Ar tC.rs.length tC.cr]) := by rw [hX9]; exact Blk.new w9 _ 30
      have HO9 : Hid (TbOwnR X9 _ tC) := HO3.out.fut
      rw [← hX9]
      clear hX9 t0 t1 t2 t3 t4 t5 lt
      have HTI3 : Hid (TbIn X9 tC) := tb_in HO9.out (by rw [HT3.out]; exact tabG_may (by rw [List.length_map]; exact HYL.out) (zeros_ok ys))
      have TU0 : Hid (∀ (w' : World) [Fut X9 w'], Calls Tryz.prog 36 #[.agg #[.int .i64 tC.s.id, .slice tC.As tC.s.cols.length tC.cs, .int .i64 tC.s.next, .int .i64 tC.sid, .slice tC.Af tC.fs.length tC.cf, .slice tC.Ar tC.rs.length tC.cr], .agg #[.slice none 0 0]] w' fun e w'' => e = .returned (.int .i64 0) ∧ Step w' w'') := fun w' _ => by
        have := total_any (w0 := X9) (w1 := X9) tC [] none 0 w' HTI3.out (PrIn.none_ X9) (by
          intro vs hvs u hu
          rw [HT3.out] at hvs
          obtain ⟨y, hy, rfl⟩ := List.mem_map.1 hvs
          obtain ⟨_, _, rfl⟩ := List.mem_map.1 hy
          simp only [rowG, List.mem_cons, List.not_mem_nil, or_false] at hu
          rcases hu with rfl | rfl <;> exact FineD.zero)
        rw [HT3.out, count0 HYL.out] at this
        exact this
      have hlb : ((tB.rs.length : Int) == (tA.rs.length : Int)) = true := by
        have h1 := congrArg (fun q => q.rows.length) HT2.out
        have h2 := congrArg (fun q => q.rows.length) HT1.out
        simp only [TbA.tb, tab2, List.length_map] at h1 h2
        rw [beq_iff_eq]; omega
      have hlc : ((tC.rs.length : Int) == (tA.rs.length : Int)) = true := by
        have h1 := congrArg (fun q => q.rows.length) HT3.out
        have h2 := congrArg (fun q => q.rows.length) HT1.out
        simp only [TbA.tb, tab2, tabG, List.length_map] at h1 h2
        rw [beq_iff_eq]; omega
      obtain ⟨t0, t1, t2, t3, t4, t5⟩ := At.z6 (HTB2.out.fut (w' := X9)).at0
      have lt := (HTB2.out.fut (w' := X9)).lt
      obtain ⟨p0, p1, p2, p3, p4, p5⟩ := At.z6 (HTB3.out.fut (w' := X9)).at0
      have lp := (HTB3.out.fut (w' := X9)).lt
      obtain ⟨q0, q1, q2, q3, q4, q5⟩ := At.z6 (HTB.out.fut (w' := X9)).at0
      have lq := (HTB.out.fut (w' := X9)).lt
      have hw1 := HWP.out.1
      have hw2 := HWP.out.2.1
      clear AP1 AP2 TC0 TC2 HTI HTI2 HTI3 HO8 HO9 HTB HTB2 HTB3 HM0 HM2 HBT HWP HYL HYR HYF HWR HT1 HT2 HT3 HFL HFR FC HO1 HO2 HO3 HB4 HB5 HB7 hb0 hb2
      refine wp_region_held_drew (S := (fun w' => Step X9 w' ∧ (∀ b o, b < X9.heap.size → w'.cell? ⟨b, o, none⟩ = X9.cell? ⟨b, o, none⟩))) (by kernel_rfl) (by (try dsimp only); (first | exact ⟨hS1, hS2⟩ | exact ⟨Step.of, (bcell (fut _ _)).1⟩)) (fun hHeld => ?_)
      refine wT 0 51 (by assumption) ?_
      refine wT 1 52 (by assumption) ?_
      refine wT 2 53 (by assumption) ?_
      refine wT 3 54 (by assumption) ?_
      refine wT 4 55 (by assumption) ?_
      refine wT 5 56 (by assumption) ?_
      refine wT 6 57 (by assumption) ?_
      refine wT 7 58 (by assumption) ?_
      refine wT 10 61 (by assumption) ?_
      refine wT 11 62 (by assumption) ?_
      refine wT 13 64 (by assumption) ?_
      refine wT 12 63 (by assumption) ?_
      refine wT 14 65 (by assumption) ?_
      refine wpAnyH_ready (rs := [8]) (by kernel_rfl) (by simp) ?_
      refine AllReadyH.cons (o := ⟨some 59, _, _, _, _, _⟩) rfl (fun K hK => ?_) AllReadyH.nil
      obtain ⟨hS1, hS2⟩ := hHeld
      go_simp
      (go_at_call 37; (with_reducible refine (cmp25_any _ _ _).mono ?_); rintro e w11 ⟨b11, rfl, HB11_, hsw11⟩; have HB11 := hide HB11_; clear HB11_)
      refine hK.out _ _ (by (try dsimp only); (first | exact ⟨hS1, hS2⟩ | exact ⟨Step.of, (bcell (fut _ _)).1⟩)) (fun hHeld => ?_)
      clear hK K
      (try simp only [Act.put, List.setIfInBounds_toArray, List.set_cons_zero, List.set_cons_succ])
      refine wpAnyH_ready (rs := [9]) (by kernel_rfl) (by simp) ?_
      refine AllReadyH.cons (o := ⟨some 60, _, _, _, _, _⟩) rfl (fun K hK => ?_) AllReadyH.nil
      obtain ⟨hS1, hS2⟩ := hHeld
      go_simp
      (go_at_call 36; (with_reducible refine (TU1.out HB11.out _).mono ?_); rintro e w12 ⟨rfl, hsw12⟩)
      refine hK.out _ _ (by (try dsimp only); (first | exact ⟨hS1, hS2⟩ | exact ⟨Step.of, (bcell (fut _ _)).1⟩)) (fun hHeld => ?_)
      clear hK K
      (try simp only [Act.put, List.setIfInBounds_toArray, List.set_cons_zero, List.set_cons_succ])
      refine wT 15 66 (by assumption) ?_
      refine wT 16 67 (by assumption) ?_
      refine wT 17 68 (by assumption) ?_
      refine wT 18 69 (by assumption) ?_
      refine wT 21 72 (by assumption) ?_
      refine wT 19 70 (by assumption) ?_
      refine wT 22 73 (by assumption) ?_
      refine wT 20 71 (by assumption) ?_
      refine wT 23 74 (by assumption) ?_
      refine wT 24 75 (by assumption) ?_
      refine wT 25 76 (by assumption) ?_
      refine wT 26 77 (by assumption) ?_
      refine wT 27 78 (by assumption) ?_
      refine wT 28 79 (by assumption) ?_
      refine wT 29 80 (by assumption) ?_
      refine wT 30 81 (by assumption) ?_
      refine wT 31 82 (by assumption) ?_
      refine wT 32 83 (by assumption) ?_
      refine wpAnyH_ready (rs := [33]) (by kernel_rfl) (by simp) ?_
      refine AllReadyH.cons (o := ⟨some 84, _, _, _, _, _⟩) rfl (fun K hK => ?_) AllReadyH.nil
      obtain ⟨hS1, hS2⟩ := hHeld
      go_simp
      (go_at_call 36; (with_reducible refine (TU0.out _).mono ?_); rintro e w13 ⟨rfl, hsw13⟩)
      refine hK.out _ _ (by (try dsimp only); (first | exact ⟨hS1, hS2⟩ | exact ⟨Step.of, (bcell (fut _ _)).1⟩)) (fun hHeld => ?_)
      clear hK K
      (try simp only [Act.put, List.setIfInBounds_toArray, List.set_cons_zero, List.set_cons_succ])
      refine wT 34 85 (by assumption) ?_
      refine wT 35 86 (by assumption) ?_
      refine wT 36 87 (by assumption) ?_
      refine wT 37 88 (by assumption) ?_
      refine wT 40 91 (by assumption) ?_
      refine wT 38 89 (by assumption) ?_
      refine wT 41 92 (by assumption) ?_
      refine wT 39 90 (by assumption) ?_
      refine wT 42 93 (by assumption) ?_
      refine wT 43 94 (by assumption) ?_
      refine wT 44 95 (by assumption) ?_
      refine wT 45 6 (by assumption) ?_
      refine wpAnyH_done (by kernel_rfl) ?_ _
      go_wp2_with fail
      go_ret
      exact ⟨rfl, Step.of⟩
  · have HBT : Hid ((if w_ < v then (m0 : Int) else 0) = 0) := if_neg hwv
    obtain ⟨c_, hc_⟩ : ∃ c : Int, IntKind.i64.wrap ((m0 : Int) + (m2 : Int)) = c := ⟨_, rfl⟩
    obtain ⟨d_, hd_⟩ : ∃ d : Int, IntKind.i64.wrap c_ = d := ⟨_, rfl⟩
    have HWP : Hid (IntKind.i64.wrap ((m0 : Int) + (m2 : Int)) = c_ ∧ IntKind.i64.wrap c_ = d_ ∧ d_ = (m0 : Int) + (m2 : Int) - 0) := by
      refine ⟨hc_, hd_, ?_⟩
      rw [IntKind.wrap_i64] at hc_ hd_
      omega
    clear hc_ hd_
    have hwd : decide (w_ < v) = false := decide_eq_false hwv
    go_upto_region 9 with fail
    clear hwv hwd
    refine wp_region_held_drew (S := (fun w' => Step X6 w' ∧ (∀ b o, b < X6.heap.size → w'.cell? ⟨b, o, none⟩ = X6.cell? ⟨b, o, none⟩))) (by kernel_rfl) (by (try dsimp only); (first | exact ⟨hS1, hS2⟩ | exact ⟨Step.of, (bcell (fut _ _)).1⟩)) (fun hHeld => ?_)
    refine wT 0 36 (by assumption) ?_
    refine wT 1 37 (by assumption) ?_
    refine wT 3 39 (by assumption) ?_
    refine wT 4 40 (by assumption) ?_
    refine wpAnyH_ready (rs := [2, 10]) (by kernel_rfl) (by simp) ?_
    refine AllReadyH.cons (o := ⟨some 38, _, _, _, _, _⟩) rfl (fun K hK => ?_) (AllReadyH.cons (o := ⟨some 12, _, _, _, _, _⟩) rfl (fun K hK => ?_) AllReadyH.nil)
    · obtain ⟨hS1, hS2⟩ := hHeld
      go_simp
      (go_at_call 37; (with_reducible refine (cmp25_any _ _ _).mono ?_); rintro e w7 ⟨b7, rfl, HB7_, hsw7⟩; have HB7 := hide HB7_; clear HB7_; try (clear z0 z1 z2 z3 z4 z5 lz fz; obtain ⟨z0, z1, z2, z3, z4, z5⟩ := At.z6 (HZ9.out.fut (w' := w7)).at0; have lz := (HZ9.out.fut (w' := w7)).lt; have fz := (HZ9.out.fut (w' := w7)).free))
      refine hK.out _ _ (by (try dsimp only); (first | exact ⟨hS1, hS2⟩ | exact ⟨Step.of, (bcell (fut _ _)).1⟩)) (fun hHeld => ?_)
      clear hK K
      (try simp only [Act.put, List.setIfInBounds_toArray, List.set_cons_zero, List.set_cons_succ])
      refine wT 5 41 (by assumption) ?_
      refine wpAnyH_ready (rs := [6, 10]) (by kernel_rfl) (by simp) ?_
      refine AllReadyH.cons (o := ⟨some 42, _, _, _, _, _⟩) rfl (fun K hK => ?_) (AllReadyH.cons (o := ⟨some 12, _, _, _, _, _⟩) rfl (fun K hK => ?_) AllReadyH.nil)
      · obtain ⟨hS1, hS2⟩ := hHeld
        go_simp
        (go_at_call 13; (with_reducible refine (AP1.out HB7.out _).mono ?_); rintro e w8 ⟨tB, rfl, ht2, ho2, hs8⟩; have HT2 := hide ht2; have HO2 := hide ho2; clear ht2 ho2; try (clear z0 z1 z2 z3 z4 z5 lz fz; obtain ⟨z0, z1, z2, z3, z4, z5⟩ := At.z6 (HZ9.out.fut (w' := w8)).at0; have lz := (HZ9.out.fut (w' := w8)).lt; have fz := (HZ9.out.fut (w' := w8)).free))
        refine hK.out _ _ (by (try dsimp only); (first | exact ⟨hS1, hS2⟩ | exact ⟨Step.of, (bcell (fut _ _)).1⟩)) (fun hHeld => ?_)
        clear hK K
        refine wT 7 35 (by assumption) ?_
        refine wT 8 43 (by assumption) ?_
        refine wT 9 44 (by assumption) ?_
        refine wpAnyH_ready (rs := [10]) (by kernel_rfl) (by simp) ?_
        refine AllReadyH.cons (o := ⟨some 12, _, _, _, _, _⟩) rfl (fun K hK => ?_) AllReadyH.nil
        go_simp
        first | (have HZ9 := hide (Blk.new w8 [.int .i64 0, .slice none 0 0, .int .i64 0, .int .i64 0, .slice none 0 0, .slice none 0 0] 30)) | (have HZ9 := hide (Blk.new w7 [.int .i64 0, .slice none 0 0, .int .i64 0, .int .i64 0, .slice none 0 0, .slice none 0 0] 30)) | (have HZ9 := hide (Blk.new X6 [.int .i64 0, .slice none 0 0, .int .i64 0, .int .i64 0, .slice none 0 0, .slice none 0 0] 30))
        obtain ⟨z0, z1, z2, z3, z4, z5⟩ := At.z6 HZ9.out.at0
        have lz := HZ9.out.lt
        have fz := HZ9.out.free
        refine hK.out _ _ (by (try dsimp only); (first | exact ⟨hS1, hS2⟩ | exact ⟨Step.of, (bcell (fut _ _)).1⟩)) (fun hHeld => ?_)
        clear hK K
        refine wpAnyH_ready (rs := [11]) (by kernel_rfl) (by simp) ?_
        refine AllReadyH.cons (o := ⟨none, _, _, _, _, _⟩) rfl (fun K hK => ?_) AllReadyH.nil
        go_simp
        refine hK.out _ _ (by (try dsimp only); (constructor; exact Step.of; intro b o h; exact (fut X6 _).cell (p := ⟨b, o, none⟩) h)) (fun hHeld => ?_)
        clear hK K
        (try simp only [Act.put, List.setIfInBounds_toArray, List.set_cons_zero, List.set_cons_succ])
        refine wT 12 13 (by assumption) ?_
        refine wpAnyH_done (by kernel_rfl) ?_ _
        go_upto_region 10 with fail
        obtain ⟨X8, hX8⟩ : ∃ x : World, x = w8.alloc (.cells #[.int .i64 tB.s.id, .slice tB.As tB.s.cols.length tB.cs, .int .i64 tB.s.next, .int .i64 tB.sid, .slice tB.Af tB.fs.length tB.cf, .slice tB.Ar tB.rs.length tB.cr] 30) := ⟨_, rfl⟩
        have HTB2 := hide (show Blk X8 w8.heap.size 30 [.int .i64 tB.s.id, .slice tB.As tB.s.cols.length tB.cs, .int .i64 tB.s.next, .int .i64 tB.sid, .slice tB.Af tB.fs.length tB.cf, .slice tB.Ar tB.rs.length tB.cr] by rw [hX8]; exact Blk.new w8 _ 30)
        have SX8' : Step w8 X8 := by rw [hX8]; exact Step.of
        have HO8 := hide (show TbOwnR X8 _ tB from HO2.out.fut)
        have SX8 : Step X6 X8 := ⟨fut X6 X8⟩
        rw [← hX8]
        clear hX8 SX8' z0 z1 z2 z3 z4 z5 lz fz
        have HFL : Hid ((ys.map fun x => if yesN [cmpN 2 v] x = true then w_ else x).length ≤ 20) := by show _ ≤ _; rw [List.length_map]; exact HYL.out
        have HFR : Hid (∀ x ∈ ys.map (fun x => if yesN [cmpN 2 v] x = true then w_ else x), -9223372036854775808 ≤ x ∧ x ≤ 9223372036854775807) := fun x hx => by
          obtain ⟨y, hy, rfl⟩ := List.mem_map.1 hx
          split
          · exact HWR.out
          · exact HYR.out y hy
        have HTI2 : Hid (TbIn X8 tB) := tb_in HO8.out (by rw [HT2.out]; exact tab2_may HFL.out)
        have TU1 : Hid (∀ {wa : World} {b : Nat}, Blk wa b 77 [.int .i64 1, .string ⟨#[97]⟩, .int .i64 0, .int .i64 1, .int .i64 w_, .bool false, .string ⟨#[]⟩, .int .i64 0, .int .i64 0] → ∀ (w' : World) [Fut X8 w'] [Fut wa w'], Calls Tryz.prog 36 #[.agg #[.int .i64 tB.s.id, .slice tB.As tB.s.cols.length tB.cs, .int .i64 tB.s.next, .int .i64 tB.sid, .slice tB.Af tB.fs.length tB.cf, .slice tB.Ar tB.rs.length tB.cr], .agg #[.slice (some ⟨b, 0, none⟩) 1 1]] w' fun e w'' => e = .returned (.int .i64 d_) ∧ Step w' w'') := by
          intro wa b hb w' _ _
          have := total2 (w0 := X8) (w1 := wa) (ns := [cmpN 0 w_]) w' HT2.out HTI2.out (pr_cmp hb) HFR.out HFL.out (cmp_pred (by omega) (by omega)) (cmp_check (by omega) (by omega))
          rw [upd_count, HM0.out, HM2.out, HBT.out, ← HWP.out.2.2] at this
          exact this
        obtain ⟨t0, t1, t2, t3, t4, t5⟩ := At.z6 (HTB.out.fut (w' := X8)).at0
        have lt := (HTB.out.fut (w' := X8)).lt
        go_upto_region 11 with (go_at_call 13; (with_reducible refine (AP2.out _).mono ?_); rintro e w9 ⟨tC, rfl, ht3, ho3, hs9⟩; have HT3 := hide ht3; have HO3 := hide ho3; clear ht3 ho3)
        obtain ⟨X9, hX9⟩ : ∃ x : World, x = w9.alloc (.cells #[.int .i64 tC.s.id, .slice tC.As tC.s.cols.length tC.cs, .int .i64 tC.s.next, .int .i64 tC.sid, .slice tC.Af tC.fs.length tC.cf, .slice tC.Ar tC.rs.length tC.cr] 30) := ⟨_, rfl⟩
        have SX9 : Step w9 X9 := by rw [hX9]; exact Step.of
        have HTB3 : Hid (Blk X9 w9.heap.size 30 [.int .i64 tC.s.id, .slice tC.As tC.s.cols.length tC.cs, .int .i64 tC.s.next, .int .i64 tC.sid, .slice tC.Af tC.fs.length tC.cf, .slice tC.Ar tC.rs.length tC.cr]) := by rw [hX9]; exact Blk.new w9 _ 30
        have HO9 : Hid (TbOwnR X9 _ tC) := HO3.out.fut
        rw [← hX9]
        clear hX9 t0 t1 t2 t3 t4 t5 lt
        have HTI3 : Hid (TbIn X9 tC) := tb_in HO9.out (by rw [HT3.out]; exact tabG_may (by rw [List.length_map]; exact HYL.out) (zeros_ok ys))
        have TU0 : Hid (∀ (w' : World) [Fut X9 w'], Calls Tryz.prog 36 #[.agg #[.int .i64 tC.s.id, .slice tC.As tC.s.cols.length tC.cs, .int .i64 tC.s.next, .int .i64 tC.sid, .slice tC.Af tC.fs.length tC.cf, .slice tC.Ar tC.rs.length tC.cr], .agg #[.slice none 0 0]] w' fun e w'' => e = .returned (.int .i64 0) ∧ Step w' w'') := fun w' _ => by
          have := total_any (w0 := X9) (w1 := X9) tC [] none 0 w' HTI3.out (PrIn.none_ X9) (by
            intro vs hvs u hu
            rw [HT3.out] at hvs
            obtain ⟨y, hy, rfl⟩ := List.mem_map.1 hvs
            obtain ⟨_, _, rfl⟩ := List.mem_map.1 hy
            simp only [rowG, List.mem_cons, List.not_mem_nil, or_false] at hu
            rcases hu with rfl | rfl <;> exact FineD.zero)
          rw [HT3.out, count0 HYL.out] at this
          exact this
        have hlb : ((tB.rs.length : Int) == (tA.rs.length : Int)) = true := by
          have h1 := congrArg (fun q => q.rows.length) HT2.out
          have h2 := congrArg (fun q => q.rows.length) HT1.out
          simp only [TbA.tb, tab2, List.length_map] at h1 h2
          rw [beq_iff_eq]; omega
        have hlc : ((tC.rs.length : Int) == (tA.rs.length : Int)) = true := by
          have h1 := congrArg (fun q => q.rows.length) HT3.out
          have h2 := congrArg (fun q => q.rows.length) HT1.out
          simp only [TbA.tb, tab2, tabG, List.length_map] at h1 h2
          rw [beq_iff_eq]; omega
        obtain ⟨t0, t1, t2, t3, t4, t5⟩ := At.z6 (HTB2.out.fut (w' := X9)).at0
        have lt := (HTB2.out.fut (w' := X9)).lt
        obtain ⟨p0, p1, p2, p3, p4, p5⟩ := At.z6 (HTB3.out.fut (w' := X9)).at0
        have lp := (HTB3.out.fut (w' := X9)).lt
        obtain ⟨q0, q1, q2, q3, q4, q5⟩ := At.z6 (HTB.out.fut (w' := X9)).at0
        have lq := (HTB.out.fut (w' := X9)).lt
        have hw1 := HWP.out.1
        have hw2 := HWP.out.2.1
        clear AP1 AP2 TC0 TC2 HTI HTI2 HTI3 HO8 HO9 HTB HTB2 HTB3 HM0 HM2 HBT HWP HYL HYR HYF HWR HT1 HT2 HT3 HFL HFR FC HO1 HO2 HO3 HB4 HB5 HB7 hb0 hb2
        refine wp_region_held_drew (S := (fun w' => Step X9 w' ∧ (∀ b o, b < X9.heap.size → w'.cell? ⟨b, o, none⟩ = X9.cell? ⟨b, o, none⟩))) (by kernel_rfl) (by (try dsimp only); (first | exact ⟨hS1, hS2⟩ | exact ⟨Step.of, (bcell (fut _ _)).1⟩)) (fun hHeld => ?_)
        refine wT 0 51 (by assumption) ?_
        refine wT 1 52 (by assumption) ?_
        refine wT 2 53 (by assumption) ?_
        refine wT 3 54 (by assumption) ?_
        refine wT 4 55 (by assumption) ?_
        refine wT 5 56 (by assumption) ?_
        refine wT 6 57 (by assumption) ?_
        refine wT 7 58 (by assumption) ?_
        refine wT 10 61 (by assumption) ?_
        refine wT 11 62 (by assumption) ?_
        refine wT 13 64 (by assumption) ?_
        refine wT 12 63 (by assumption) ?_
        refine wT 14 65 (by assumption) ?_
        refine wpAnyH_ready (rs := [8]) (by kernel_rfl) (by simp) ?_
        refine AllReadyH.cons (o := ⟨some 59, _, _, _, _, _⟩) rfl (fun K hK => ?_) AllReadyH.nil
        obtain ⟨hS1, hS2⟩ := hHeld
        go_simp
        (go_at_call 37; (with_reducible refine (cmp25_any _ _ _).mono ?_); rintro e w11 ⟨b11, rfl, HB11_, hsw11⟩; have HB11 := hide HB11_; clear HB11_)
        refine hK.out _ _ (by (try dsimp only); (first | exact ⟨hS1, hS2⟩ | exact ⟨Step.of, (bcell (fut _ _)).1⟩)) (fun hHeld => ?_)
        clear hK K
        (try simp only [Act.put, List.setIfInBounds_toArray, List.set_cons_zero, List.set_cons_succ])
        refine wpAnyH_ready (rs := [9]) (by kernel_rfl) (by simp) ?_
        refine AllReadyH.cons (o := ⟨some 60, _, _, _, _, _⟩) rfl (fun K hK => ?_) AllReadyH.nil
        obtain ⟨hS1, hS2⟩ := hHeld
        go_simp
        (go_at_call 36; (with_reducible refine (TU1.out HB11.out _).mono ?_); rintro e w12 ⟨rfl, hsw12⟩)
        refine hK.out _ _ (by (try dsimp only); (first | exact ⟨hS1, hS2⟩ | exact ⟨Step.of, (bcell (fut _ _)).1⟩)) (fun hHeld => ?_)
        clear hK K
        (try simp only [Act.put, List.setIfInBounds_toArray, List.set_cons_zero, List.set_cons_succ])
        refine wT 15 66 (by assumption) ?_
        refine wT 16 67 (by assumption) ?_
        refine wT 17 68 (by assumption) ?_
        refine wT 18 69 (by assumption) ?_
        refine wT 21 72 (by assumption) ?_
        refine wT 19 70 (by assumption) ?_
        refine wT 22 73 (by assumption) ?_
        refine wT 20 71 (by assumption) ?_
        refine wT 23 74 (by assumption) ?_
        refine wT 24 75 (by assumption) ?_
        refine wT 25 76 (by assumption) ?_
        refine wT 26 77 (by assumption) ?_
        refine wT 27 78 (by assumption) ?_
        refine wT 28 79 (by assumption) ?_
        refine wT 29 80 (by assumption) ?_
        refine wT 30 81 (by assumption) ?_
        refine wT 31 82 (by assumption) ?_
        refine wT 32 83 (by assumption) ?_
        refine wpAnyH_ready (rs := [33]) (by kernel_rfl) (by simp) ?_
        refine AllReadyH.cons (o := ⟨some 84, _, _, _, _, _⟩) rfl (fun K hK => ?_) AllReadyH.nil
        obtain ⟨hS1, hS2⟩ := hHeld
        go_simp
        (go_at_call 36; (with_reducible refine (TU0.out _).mono ?_); rintro e w13 ⟨rfl, hsw13⟩)
        refine hK.out _ _ (by (try dsimp only); (first | exact ⟨hS1, hS2⟩ | exact ⟨Step.of, (bcell (fut _ _)).1⟩)) (fun hHeld => ?_)
        clear hK K
        (try simp only [Act.put, List.setIfInBounds_toArray, List.set_cons_zero, List.set_cons_succ])
        refine wT 34 85 (by assumption) ?_
        refine wT 35 86 (by assumption) ?_
        refine wT 36 87 (by assumption) ?_
        refine wT 37 88 (by assumption) ?_
        refine wT 40 91 (by assumption) ?_
        refine wT 38 89 (by assumption) ?_
        refine wT 41 92 (by assumption) ?_
        refine wT 39 90 (by assumption) ?_
        refine wT 42 93 (by assumption) ?_
        refine wT 43 94 (by assumption) ?_
        refine wT 44 95 (by assumption) ?_
        refine wT 45 6 (by assumption) ?_
        refine wpAnyH_done (by kernel_rfl) ?_ _
        go_wp2_with fail
        go_ret
        exact ⟨rfl, Step.of⟩
      · go_simp
        first | (have HZ9 := hide (Blk.new w8 [.int .i64 0, .slice none 0 0, .int .i64 0, .int .i64 0, .slice none 0 0, .slice none 0 0] 30)) | (have HZ9 := hide (Blk.new w7 [.int .i64 0, .slice none 0 0, .int .i64 0, .int .i64 0, .slice none 0 0, .slice none 0 0] 30)) | (have HZ9 := hide (Blk.new X6 [.int .i64 0, .slice none 0 0, .int .i64 0, .int .i64 0, .slice none 0 0, .slice none 0 0] 30))
        obtain ⟨z0, z1, z2, z3, z4, z5⟩ := At.z6 HZ9.out.at0
        have lz := HZ9.out.lt
        have fz := HZ9.out.free
        refine hK.out _ _ (by (try dsimp only); (first | exact ⟨hS1, hS2⟩ | exact ⟨Step.of, (bcell (fut _ _)).1⟩)) (fun hHeld => ?_)
        clear hK K
        refine wpAnyH_ready (rs := [6]) (by kernel_rfl) (by simp) ?_
        refine AllReadyH.cons (o := ⟨some 42, _, _, _, _, _⟩) rfl (fun K hK => ?_) AllReadyH.nil
        obtain ⟨hS1, hS2⟩ := hHeld
        go_simp
        (go_at_call 13; (with_reducible refine (AP1.out HB7.out _).mono ?_); rintro e w8 ⟨tB, rfl, ht2, ho2, hs8⟩; have HT2 := hide ht2; have HO2 := hide ho2; clear ht2 ho2; try (clear z0 z1 z2 z3 z4 z5 lz fz; obtain ⟨z0, z1, z2, z3, z4, z5⟩ := At.z6 (HZ9.out.fut (w' := w8)).at0; have lz := (HZ9.out.fut (w' := w8)).lt; have fz := (HZ9.out.fut (w' := w8)).free))
        refine hK.out _ _ (by (try dsimp only); (first | exact ⟨hS1, hS2⟩ | exact ⟨Step.of, (bcell (fut _ _)).1⟩)) (fun hHeld => ?_)
        clear hK K
        refine wT 7 35 (by assumption) ?_
        refine wT 8 43 (by assumption) ?_
        refine wT 9 44 (by assumption) ?_
        refine wpAnyH_ready (rs := [11]) (by kernel_rfl) (by simp) ?_
        refine AllReadyH.cons (o := ⟨none, _, _, _, _, _⟩) rfl (fun K hK => ?_) AllReadyH.nil
        go_simp
        refine hK.out _ _ (by (try dsimp only); (constructor; exact Step.of; intro b o h; exact (fut X6 _).cell (p := ⟨b, o, none⟩) h)) (fun hHeld => ?_)
        clear hK K
        (try simp only [Act.put, List.setIfInBounds_toArray, List.set_cons_zero, List.set_cons_succ])
        refine wT 12 13 (by assumption) ?_
        refine wpAnyH_done (by kernel_rfl) ?_ _
        go_upto_region 10 with fail
        obtain ⟨X8, hX8⟩ : ∃ x : World, x = set6D w8 w7.heap.size (.int .i64 tB.s.id) (.slice tB.As tB.s.cols.length tB.cs) (.int .i64 tB.s.next) (.int .i64 tB.sid) (.slice tB.Af tB.fs.length tB.cf) (.slice tB.Ar tB.rs.length tB.cr) := ⟨_, rfl⟩
        have HTB2 := hide (show Blk X8 w7.heap.size 30 [.int .i64 tB.s.id, .slice tB.As tB.s.cols.length tB.cs, .int .i64 tB.s.next, .int .i64 tB.sid, .slice tB.Af tB.fs.length tB.cf, .slice tB.Ar tB.rs.length tB.cr] by rw [hX8]; exact set6D_blk (HZ9.out.fut (w' := w8)) (.int .i64 tB.s.id) (.slice tB.As tB.s.cols.length tB.cs) (.int .i64 tB.s.next) (.int .i64 tB.sid) (.slice tB.Af tB.fs.length tB.cf) (.slice tB.Ar tB.rs.length tB.cr))
        have HO8 := hide (show TbOwnR X8 _ tB by rw [hX8]; exact HO2.out.set6 (HZ9.out.fut (w' := w8)) (.int .i64 tB.s.id) (.slice tB.As tB.s.cols.length tB.cs) (.int .i64 tB.s.next) (.int .i64 tB.sid) (.slice tB.Af tB.fs.length tB.cf) (.slice tB.Ar tB.rs.length tB.cr))
        have SX8 : Step X6 X8 := by rw [hX8]; exact ⟨set6D_below (fut X6 w8) (fut X6 w7).size (.int .i64 tB.s.id) (.slice tB.As tB.s.cols.length tB.cs) (.int .i64 tB.s.next) (.int .i64 tB.sid) (.slice tB.Af tB.fs.length tB.cf) (.slice tB.Ar tB.rs.length tB.cr)⟩
        unfold set6D at hX8
        rw [← hX8]
        clear hX8 z0 z1 z2 z3 z4 z5 lz fz
        have HFL : Hid ((ys.map fun x => if yesN [cmpN 2 v] x = true then w_ else x).length ≤ 20) := by show _ ≤ _; rw [List.length_map]; exact HYL.out
        have HFR : Hid (∀ x ∈ ys.map (fun x => if yesN [cmpN 2 v] x = true then w_ else x), -9223372036854775808 ≤ x ∧ x ≤ 9223372036854775807) := fun x hx => by
          obtain ⟨y, hy, rfl⟩ := List.mem_map.1 hx
          split
          · exact HWR.out
          · exact HYR.out y hy
        have HTI2 : Hid (TbIn X8 tB) := tb_in HO8.out (by rw [HT2.out]; exact tab2_may HFL.out)
        have TU1 : Hid (∀ {wa : World} {b : Nat}, Blk wa b 77 [.int .i64 1, .string ⟨#[97]⟩, .int .i64 0, .int .i64 1, .int .i64 w_, .bool false, .string ⟨#[]⟩, .int .i64 0, .int .i64 0] → ∀ (w' : World) [Fut X8 w'] [Fut wa w'], Calls Tryz.prog 36 #[.agg #[.int .i64 tB.s.id, .slice tB.As tB.s.cols.length tB.cs, .int .i64 tB.s.next, .int .i64 tB.sid, .slice tB.Af tB.fs.length tB.cf, .slice tB.Ar tB.rs.length tB.cr], .agg #[.slice (some ⟨b, 0, none⟩) 1 1]] w' fun e w'' => e = .returned (.int .i64 d_) ∧ Step w' w'') := by
          intro wa b hb w' _ _
          have := total2 (w0 := X8) (w1 := wa) (ns := [cmpN 0 w_]) w' HT2.out HTI2.out (pr_cmp hb) HFR.out HFL.out (cmp_pred (by omega) (by omega)) (cmp_check (by omega) (by omega))
          rw [upd_count, HM0.out, HM2.out, HBT.out, ← HWP.out.2.2] at this
          exact this
        obtain ⟨t0, t1, t2, t3, t4, t5⟩ := At.z6 (HTB.out.fut (w' := X8)).at0
        have lt := (HTB.out.fut (w' := X8)).lt
        go_upto_region 11 with (go_at_call 13; (with_reducible refine (AP2.out _).mono ?_); rintro e w9 ⟨tC, rfl, ht3, ho3, hs9⟩; have HT3 := hide ht3; have HO3 := hide ho3; clear ht3 ho3)
        obtain ⟨X9, hX9⟩ : ∃ x : World, x = w9.alloc (.cells #[.int .i64 tC.s.id, .slice tC.As tC.s.cols.length tC.cs, .int .i64 tC.s.next, .int .i64 tC.sid, .slice tC.Af tC.fs.length tC.cf, .slice tC.Ar tC.rs.length tC.cr] 30) := ⟨_, rfl⟩
        have SX9 : Step w9 X9 := by rw [hX9]; exact Step.of
        have HTB3 : Hid (Blk X9 w9.heap.size 30 [.int .i64 tC.s.id, .slice tC.As tC.s.cols.length tC.cs, .int .i64 tC.s.next, .int .i64 tC.sid, .slice tC.Af tC.fs.length tC.cf, .slice tC.Ar tC.rs.length tC.cr]) := by rw [hX9]; exact Blk.new w9 _ 30
        have HO9 : Hid (TbOwnR X9 _ tC) := HO3.out.fut
        rw [← hX9]
        clear hX9 t0 t1 t2 t3 t4 t5 lt
        have HTI3 : Hid (TbIn X9 tC) := tb_in HO9.out (by rw [HT3.out]; exact tabG_may (by rw [List.length_map]; exact HYL.out) (zeros_ok ys))
        have TU0 : Hid (∀ (w' : World) [Fut X9 w'], Calls Tryz.prog 36 #[.agg #[.int .i64 tC.s.id, .slice tC.As tC.s.cols.length tC.cs, .int .i64 tC.s.next, .int .i64 tC.sid, .slice tC.Af tC.fs.length tC.cf, .slice tC.Ar tC.rs.length tC.cr], .agg #[.slice none 0 0]] w' fun e w'' => e = .returned (.int .i64 0) ∧ Step w' w'') := fun w' _ => by
          have := total_any (w0 := X9) (w1 := X9) tC [] none 0 w' HTI3.out (PrIn.none_ X9) (by
            intro vs hvs u hu
            rw [HT3.out] at hvs
            obtain ⟨y, hy, rfl⟩ := List.mem_map.1 hvs
            obtain ⟨_, _, rfl⟩ := List.mem_map.1 hy
            simp only [rowG, List.mem_cons, List.not_mem_nil, or_false] at hu
            rcases hu with rfl | rfl <;> exact FineD.zero)
          rw [HT3.out, count0 HYL.out] at this
          exact this
        have hlb : ((tB.rs.length : Int) == (tA.rs.length : Int)) = true := by
          have h1 := congrArg (fun q => q.rows.length) HT2.out
          have h2 := congrArg (fun q => q.rows.length) HT1.out
          simp only [TbA.tb, tab2, List.length_map] at h1 h2
          rw [beq_iff_eq]; omega
        have hlc : ((tC.rs.length : Int) == (tA.rs.length : Int)) = true := by
          have h1 := congrArg (fun q => q.rows.length) HT3.out
          have h2 := congrArg (fun q => q.rows.length) HT1.out
          simp only [TbA.tb, tab2, tabG, List.length_map] at h1 h2
          rw [beq_iff_eq]; omega
        obtain ⟨t0, t1, t2, t3, t4, t5⟩ := At.z6 (HTB2.out.fut (w' := X9)).at0
        have lt := (HTB2.out.fut (w' := X9)).lt
        obtain ⟨p0, p1, p2, p3, p4, p5⟩ := At.z6 (HTB3.out.fut (w' := X9)).at0
        have lp := (HTB3.out.fut (w' := X9)).lt
        obtain ⟨q0, q1, q2, q3, q4, q5⟩ := At.z6 (HTB.out.fut (w' := X9)).at0
        have lq := (HTB.out.fut (w' := X9)).lt
        have hw1 := HWP.out.1
        have hw2 := HWP.out.2.1
        clear AP1 AP2 TC0 TC2 HTI HTI2 HTI3 HO8 HO9 HTB HTB2 HTB3 HM0 HM2 HBT HWP HYL HYR HYF HWR HT1 HT2 HT3 HFL HFR FC HO1 HO2 HO3 HB4 HB5 HB7 hb0 hb2
        refine wp_region_held_drew (S := (fun w' => Step X9 w' ∧ (∀ b o, b < X9.heap.size → w'.cell? ⟨b, o, none⟩ = X9.cell? ⟨b, o, none⟩))) (by kernel_rfl) (by (try dsimp only); (first | exact ⟨hS1, hS2⟩ | exact ⟨Step.of, (bcell (fut _ _)).1⟩)) (fun hHeld => ?_)
        refine wT 0 51 (by assumption) ?_
        refine wT 1 52 (by assumption) ?_
        refine wT 2 53 (by assumption) ?_
        refine wT 3 54 (by assumption) ?_
        refine wT 4 55 (by assumption) ?_
        refine wT 5 56 (by assumption) ?_
        refine wT 6 57 (by assumption) ?_
        refine wT 7 58 (by assumption) ?_
        refine wT 10 61 (by assumption) ?_
        refine wT 11 62 (by assumption) ?_
        refine wT 13 64 (by assumption) ?_
        refine wT 12 63 (by assumption) ?_
        refine wT 14 65 (by assumption) ?_
        refine wpAnyH_ready (rs := [8]) (by kernel_rfl) (by simp) ?_
        refine AllReadyH.cons (o := ⟨some 59, _, _, _, _, _⟩) rfl (fun K hK => ?_) AllReadyH.nil
        obtain ⟨hS1, hS2⟩ := hHeld
        go_simp
        (go_at_call 37; (with_reducible refine (cmp25_any _ _ _).mono ?_); rintro e w11 ⟨b11, rfl, HB11_, hsw11⟩; have HB11 := hide HB11_; clear HB11_)
        refine hK.out _ _ (by (try dsimp only); (first | exact ⟨hS1, hS2⟩ | exact ⟨Step.of, (bcell (fut _ _)).1⟩)) (fun hHeld => ?_)
        clear hK K
        (try simp only [Act.put, List.setIfInBounds_toArray, List.set_cons_zero, List.set_cons_succ])
        refine wpAnyH_ready (rs := [9]) (by kernel_rfl) (by simp) ?_
        refine AllReadyH.cons (o := ⟨some 60, _, _, _, _, _⟩) rfl (fun K hK => ?_) AllReadyH.nil
        obtain ⟨hS1, hS2⟩ := hHeld
        go_simp
        (go_at_call 36; (with_reducible refine (TU1.out HB11.out _).mono ?_); rintro e w12 ⟨rfl, hsw12⟩)
        refine hK.out _ _ (by (try dsimp only); (first | exact ⟨hS1, hS2⟩ | exact ⟨Step.of, (bcell (fut _ _)).1⟩)) (fun hHeld => ?_)
        clear hK K
        (try simp only [Act.put, List.setIfInBounds_toArray, List.set_cons_zero, List.set_cons_succ])
        refine wT 15 66 (by assumption) ?_
        refine wT 16 67 (by assumption) ?_
        refine wT 17 68 (by assumption) ?_
        refine wT 18 69 (by assumption) ?_
        refine wT 21 72 (by assumption) ?_
        refine wT 19 70 (by assumption) ?_
        refine wT 22 73 (by assumption) ?_
        refine wT 20 71 (by assumption) ?_
        refine wT 23 74 (by assumption) ?_
        refine wT 24 75 (by assumption) ?_
        refine wT 25 76 (by assumption) ?_
        refine wT 26 77 (by assumption) ?_
        refine wT 27 78 (by assumption) ?_
        refine wT 28 79 (by assumption) ?_
        refine wT 29 80 (by assumption) ?_
        refine wT 30 81 (by assumption) ?_
        refine wT 31 82 (by assumption) ?_
        refine wT 32 83 (by assumption) ?_
        refine wpAnyH_ready (rs := [33]) (by kernel_rfl) (by simp) ?_
        refine AllReadyH.cons (o := ⟨some 84, _, _, _, _, _⟩) rfl (fun K hK => ?_) AllReadyH.nil
        obtain ⟨hS1, hS2⟩ := hHeld
        go_simp
        (go_at_call 36; (with_reducible refine (TU0.out _).mono ?_); rintro e w13 ⟨rfl, hsw13⟩)
        refine hK.out _ _ (by (try dsimp only); (first | exact ⟨hS1, hS2⟩ | exact ⟨Step.of, (bcell (fut _ _)).1⟩)) (fun hHeld => ?_)
        clear hK K
        (try simp only [Act.put, List.setIfInBounds_toArray, List.set_cons_zero, List.set_cons_succ])
        refine wT 34 85 (by assumption) ?_
        refine wT 35 86 (by assumption) ?_
        refine wT 36 87 (by assumption) ?_
        refine wT 37 88 (by assumption) ?_
        refine wT 40 91 (by assumption) ?_
        refine wT 38 89 (by assumption) ?_
        refine wT 41 92 (by assumption) ?_
        refine wT 39 90 (by assumption) ?_
        refine wT 42 93 (by assumption) ?_
        refine wT 43 94 (by assumption) ?_
        refine wT 44 95 (by assumption) ?_
        refine wT 45 6 (by assumption) ?_
        refine wpAnyH_done (by kernel_rfl) ?_ _
        go_wp2_with fail
        go_ret
        exact ⟨rfl, Step.of⟩
    · go_simp
      first | (have HZ9 := hide (Blk.new w8 [.int .i64 0, .slice none 0 0, .int .i64 0, .int .i64 0, .slice none 0 0, .slice none 0 0] 30)) | (have HZ9 := hide (Blk.new w7 [.int .i64 0, .slice none 0 0, .int .i64 0, .int .i64 0, .slice none 0 0, .slice none 0 0] 30)) | (have HZ9 := hide (Blk.new X6 [.int .i64 0, .slice none 0 0, .int .i64 0, .int .i64 0, .slice none 0 0, .slice none 0 0] 30))
      obtain ⟨z0, z1, z2, z3, z4, z5⟩ := At.z6 HZ9.out.at0
      have lz := HZ9.out.lt
      have fz := HZ9.out.free
      refine hK.out _ _ (by (try dsimp only); (first | exact ⟨hS1, hS2⟩ | exact ⟨Step.of, (bcell (fut _ _)).1⟩)) (fun hHeld => ?_)
      clear hK K
      refine wpAnyH_ready (rs := [2]) (by kernel_rfl) (by simp) ?_
      refine AllReadyH.cons (o := ⟨some 38, _, _, _, _, _⟩) rfl (fun K hK => ?_) AllReadyH.nil
      obtain ⟨hS1, hS2⟩ := hHeld
      go_simp
      (go_at_call 37; (with_reducible refine (cmp25_any _ _ _).mono ?_); rintro e w7 ⟨b7, rfl, HB7_, hsw7⟩; have HB7 := hide HB7_; clear HB7_; try (clear z0 z1 z2 z3 z4 z5 lz fz; obtain ⟨z0, z1, z2, z3, z4, z5⟩ := At.z6 (HZ9.out.fut (w' := w7)).at0; have lz := (HZ9.out.fut (w' := w7)).lt; have fz := (HZ9.out.fut (w' := w7)).free))
      refine hK.out _ _ (by (try dsimp only); (first | exact ⟨hS1, hS2⟩ | exact ⟨Step.of, (bcell (fut _ _)).1⟩)) (fun hHeld => ?_)
      clear hK K
      (try simp only [Act.put, List.setIfInBounds_toArray, List.set_cons_zero, List.set_cons_succ])
      refine wT 5 41 (by assumption) ?_
      refine wpAnyH_ready (rs := [6]) (by kernel_rfl) (by simp) ?_
      refine AllReadyH.cons (o := ⟨some 42, _, _, _, _, _⟩) rfl (fun K hK => ?_) AllReadyH.nil
      obtain ⟨hS1, hS2⟩ := hHeld
      go_simp
      (go_at_call 13; (with_reducible refine (AP1.out HB7.out _).mono ?_); rintro e w8 ⟨tB, rfl, ht2, ho2, hs8⟩; have HT2 := hide ht2; have HO2 := hide ho2; clear ht2 ho2; try (clear z0 z1 z2 z3 z4 z5 lz fz; obtain ⟨z0, z1, z2, z3, z4, z5⟩ := At.z6 (HZ9.out.fut (w' := w8)).at0; have lz := (HZ9.out.fut (w' := w8)).lt; have fz := (HZ9.out.fut (w' := w8)).free))
      refine hK.out _ _ (by (try dsimp only); (first | exact ⟨hS1, hS2⟩ | exact ⟨Step.of, (bcell (fut _ _)).1⟩)) (fun hHeld => ?_)
      clear hK K
      refine wT 7 35 (by assumption) ?_
      refine wT 8 43 (by assumption) ?_
      refine wT 9 44 (by assumption) ?_
      refine wpAnyH_ready (rs := [11]) (by kernel_rfl) (by simp) ?_
      refine AllReadyH.cons (o := ⟨none, _, _, _, _, _⟩) rfl (fun K hK => ?_) AllReadyH.nil
      go_simp
      refine hK.out _ _ (by (try dsimp only); (constructor; exact Step.of; intro b o h; exact (fut X6 _).cell (p := ⟨b, o, none⟩) h)) (fun hHeld => ?_)
      clear hK K
      (try simp only [Act.put, List.setIfInBounds_toArray, List.set_cons_zero, List.set_cons_succ])
      refine wT 12 13 (by assumption) ?_
      refine wpAnyH_done (by kernel_rfl) ?_ _
      go_upto_region 10 with fail
      obtain ⟨X8, hX8⟩ : ∃ x : World, x = set6D w8 X6.heap.size (.int .i64 tB.s.id) (.slice tB.As tB.s.cols.length tB.cs) (.int .i64 tB.s.next) (.int .i64 tB.sid) (.slice tB.Af tB.fs.length tB.cf) (.slice tB.Ar tB.rs.length tB.cr) := ⟨_, rfl⟩
      have HTB2 := hide (show Blk X8 X6.heap.size 30 [.int .i64 tB.s.id, .slice tB.As tB.s.cols.length tB.cs, .int .i64 tB.s.next, .int .i64 tB.sid, .slice tB.Af tB.fs.length tB.cf, .slice tB.Ar tB.rs.length tB.cr] by rw [hX8]; exact set6D_blk (HZ9.out.fut (w' := w8)) (.int .i64 tB.s.id) (.slice tB.As tB.s.cols.length tB.cs) (.int .i64 tB.s.next) (.int .i64 tB.sid) (.slice tB.Af tB.fs.length tB.cf) (.slice tB.Ar tB.rs.length tB.cr))
      have HO8 := hide (show TbOwnR X8 _ tB by rw [hX8]; exact HO2.out.set6 (HZ9.out.fut (w' := w8)) (.int .i64 tB.s.id) (.slice tB.As tB.s.cols.length tB.cs) (.int .i64 tB.s.next) (.int .i64 tB.sid) (.slice tB.Af tB.fs.length tB.cf) (.slice tB.Ar tB.rs.length tB.cr))
      have SX8 : Step X6 X8 := by rw [hX8]; exact ⟨set6D_below (fut X6 w8) (Nat.le_refl _) (.int .i64 tB.s.id) (.slice tB.As tB.s.cols.length tB.cs) (.int .i64 tB.s.next) (.int .i64 tB.sid) (.slice tB.Af tB.fs.length tB.cf) (.slice tB.Ar tB.rs.length tB.cr)⟩
      unfold set6D at hX8
      rw [← hX8]
      clear hX8 z0 z1 z2 z3 z4 z5 lz fz
      have HFL : Hid ((ys.map fun x => if yesN [cmpN 2 v] x = true then w_ else x).length ≤ 20) := by show _ ≤ _; rw [List.length_map]; exact HYL.out
      have HFR : Hid (∀ x ∈ ys.map (fun x => if yesN [cmpN 2 v] x = true then w_ else x), -9223372036854775808 ≤ x ∧ x ≤ 9223372036854775807) := fun x hx => by
        obtain ⟨y, hy, rfl⟩ := List.mem_map.1 hx
        split
        · exact HWR.out
        · exact HYR.out y hy
      have HTI2 : Hid (TbIn X8 tB) := tb_in HO8.out (by rw [HT2.out]; exact tab2_may HFL.out)
      have TU1 : Hid (∀ {wa : World} {b : Nat}, Blk wa b 77 [.int .i64 1, .string ⟨#[97]⟩, .int .i64 0, .int .i64 1, .int .i64 w_, .bool false, .string ⟨#[]⟩, .int .i64 0, .int .i64 0] → ∀ (w' : World) [Fut X8 w'] [Fut wa w'], Calls Tryz.prog 36 #[.agg #[.int .i64 tB.s.id, .slice tB.As tB.s.cols.length tB.cs, .int .i64 tB.s.next, .int .i64 tB.sid, .slice tB.Af tB.fs.length tB.cf, .slice tB.Ar tB.rs.length tB.cr], .agg #[.slice (some ⟨b, 0, none⟩) 1 1]] w' fun e w'' => e = .returned (.int .i64 d_) ∧ Step w' w'') := by
        intro wa b hb w' _ _
        have := total2 (w0 := X8) (w1 := wa) (ns := [cmpN 0 w_]) w' HT2.out HTI2.out (pr_cmp hb) HFR.out HFL.out (cmp_pred (by omega) (by omega)) (cmp_check (by omega) (by omega))
        rw [upd_count, HM0.out, HM2.out, HBT.out, ← HWP.out.2.2] at this
        exact this
      obtain ⟨t0, t1, t2, t3, t4, t5⟩ := At.z6 (HTB.out.fut (w' := X8)).at0
      have lt := (HTB.out.fut (w' := X8)).lt
      go_upto_region 11 with (go_at_call 13; (with_reducible refine (AP2.out _).mono ?_); rintro e w9 ⟨tC, rfl, ht3, ho3, hs9⟩; have HT3 := hide ht3; have HO3 := hide ho3; clear ht3 ho3)
      obtain ⟨X9, hX9⟩ : ∃ x : World, x = w9.alloc (.cells #[.int .i64 tC.s.id, .slice tC.As tC.s.cols.length tC.cs, .int .i64 tC.s.next, .int .i64 tC.sid, .slice tC.Af tC.fs.length tC.cf, .slice tC.Ar tC.rs.length tC.cr] 30) := ⟨_, rfl⟩
      have SX9 : Step w9 X9 := by rw [hX9]; exact Step.of
      have HTB3 : Hid (Blk X9 w9.heap.size 30 [.int .i64 tC.s.id, .slice tC.As tC.s.cols.length tC.cs, .int .i64 tC.s.next, .int .i64 tC.sid, .slice tC.Af tC.fs.length tC.cf, .slice tC.Ar tC.rs.length tC.cr]) := by rw [hX9]; exact Blk.new w9 _ 30
      have HO9 : Hid (TbOwnR X9 _ tC) := HO3.out.fut
      rw [← hX9]
      clear hX9 t0 t1 t2 t3 t4 t5 lt
      have HTI3 : Hid (TbIn X9 tC) := tb_in HO9.out (by rw [HT3.out]; exact tabG_may (by rw [List.length_map]; exact HYL.out) (zeros_ok ys))
      have TU0 : Hid (∀ (w' : World) [Fut X9 w'], Calls Tryz.prog 36 #[.agg #[.int .i64 tC.s.id, .slice tC.As tC.s.cols.length tC.cs, .int .i64 tC.s.next, .int .i64 tC.sid, .slice tC.Af tC.fs.length tC.cf, .slice tC.Ar tC.rs.length tC.cr], .agg #[.slice none 0 0]] w' fun e w'' => e = .returned (.int .i64 0) ∧ Step w' w'') := fun w' _ => by
        have := total_any (w0 := X9) (w1 := X9) tC [] none 0 w' HTI3.out (PrIn.none_ X9) (by
          intro vs hvs u hu
          rw [HT3.out] at hvs
          obtain ⟨y, hy, rfl⟩ := List.mem_map.1 hvs
          obtain ⟨_, _, rfl⟩ := List.mem_map.1 hy
          simp only [rowG, List.mem_cons, List.not_mem_nil, or_false] at hu
          rcases hu with rfl | rfl <;> exact FineD.zero)
        rw [HT3.out, count0 HYL.out] at this
        exact this
      have hlb : ((tB.rs.length : Int) == (tA.rs.length : Int)) = true := by
        have h1 := congrArg (fun q => q.rows.length) HT2.out
        have h2 := congrArg (fun q => q.rows.length) HT1.out
        simp only [TbA.tb, tab2, List.length_map] at h1 h2
        rw [beq_iff_eq]; omega
      have hlc : ((tC.rs.length : Int) == (tA.rs.length : Int)) = true := by
        have h1 := congrArg (fun q => q.rows.length) HT3.out
        have h2 := congrArg (fun q => q.rows.length) HT1.out
        simp only [TbA.tb, tab2, tabG, List.length_map] at h1 h2
        rw [beq_iff_eq]; omega
      obtain ⟨t0, t1, t2, t3, t4, t5⟩ := At.z6 (HTB2.out.fut (w' := X9)).at0
      have lt := (HTB2.out.fut (w' := X9)).lt
      obtain ⟨p0, p1, p2, p3, p4, p5⟩ := At.z6 (HTB3.out.fut (w' := X9)).at0
      have lp := (HTB3.out.fut (w' := X9)).lt
      obtain ⟨q0, q1, q2, q3, q4, q5⟩ := At.z6 (HTB.out.fut (w' := X9)).at0
      have lq := (HTB.out.fut (w' := X9)).lt
      have hw1 := HWP.out.1
      have hw2 := HWP.out.2.1
      clear AP1 AP2 TC0 TC2 HTI HTI2 HTI3 HO8 HO9 HTB HTB2 HTB3 HM0 HM2 HBT HWP HYL HYR HYF HWR HT1 HT2 HT3 HFL HFR FC HO1 HO2 HO3 HB4 HB5 HB7 hb0 hb2
      refine wp_region_held_drew (S := (fun w' => Step X9 w' ∧ (∀ b o, b < X9.heap.size → w'.cell? ⟨b, o, none⟩ = X9.cell? ⟨b, o, none⟩))) (by kernel_rfl) (by (try dsimp only); (first | exact ⟨hS1, hS2⟩ | exact ⟨Step.of, (bcell (fut _ _)).1⟩)) (fun hHeld => ?_)
      refine wT 0 51 (by assumption) ?_
      refine wT 1 52 (by assumption) ?_
      refine wT 2 53 (by assumption) ?_
      refine wT 3 54 (by assumption) ?_
      refine wT 4 55 (by assumption) ?_
      refine wT 5 56 (by assumption) ?_
      refine wT 6 57 (by assumption) ?_
      refine wT 7 58 (by assumption) ?_
      refine wT 10 61 (by assumption) ?_
      refine wT 11 62 (by assumption) ?_
      refine wT 13 64 (by assumption) ?_
      refine wT 12 63 (by assumption) ?_
      refine wT 14 65 (by assumption) ?_
      refine wpAnyH_ready (rs := [8]) (by kernel_rfl) (by simp) ?_
      refine AllReadyH.cons (o := ⟨some 59, _, _, _, _, _⟩) rfl (fun K hK => ?_) AllReadyH.nil
      obtain ⟨hS1, hS2⟩ := hHeld
      go_simp
      (go_at_call 37; (with_reducible refine (cmp25_any _ _ _).mono ?_); rintro e w11 ⟨b11, rfl, HB11_, hsw11⟩; have HB11 := hide HB11_; clear HB11_)
      refine hK.out _ _ (by (try dsimp only); (first | exact ⟨hS1, hS2⟩ | exact ⟨Step.of, (bcell (fut _ _)).1⟩)) (fun hHeld => ?_)
      clear hK K
      (try simp only [Act.put, List.setIfInBounds_toArray, List.set_cons_zero, List.set_cons_succ])
      refine wpAnyH_ready (rs := [9]) (by kernel_rfl) (by simp) ?_
      refine AllReadyH.cons (o := ⟨some 60, _, _, _, _, _⟩) rfl (fun K hK => ?_) AllReadyH.nil
      obtain ⟨hS1, hS2⟩ := hHeld
      go_simp
      (go_at_call 36; (with_reducible refine (TU1.out HB11.out _).mono ?_); rintro e w12 ⟨rfl, hsw12⟩)
      refine hK.out _ _ (by (try dsimp only); (first | exact ⟨hS1, hS2⟩ | exact ⟨Step.of, (bcell (fut _ _)).1⟩)) (fun hHeld => ?_)
      clear hK K
      (try simp only [Act.put, List.setIfInBounds_toArray, List.set_cons_zero, List.set_cons_succ])
      refine wT 15 66 (by assumption) ?_
      refine wT 16 67 (by assumption) ?_
      refine wT 17 68 (by assumption) ?_
      refine wT 18 69 (by assumption) ?_
      refine wT 21 72 (by assumption) ?_
      refine wT 19 70 (by assumption) ?_
      refine wT 22 73 (by assumption) ?_
      refine wT 20 71 (by assumption) ?_
      refine wT 23 74 (by assumption) ?_
      refine wT 24 75 (by assumption) ?_
      refine wT 25 76 (by assumption) ?_
      refine wT 26 77 (by assumption) ?_
      refine wT 27 78 (by assumption) ?_
      refine wT 28 79 (by assumption) ?_
      refine wT 29 80 (by assumption) ?_
      refine wT 30 81 (by assumption) ?_
      refine wT 31 82 (by assumption) ?_
      refine wT 32 83 (by assumption) ?_
      refine wpAnyH_ready (rs := [33]) (by kernel_rfl) (by simp) ?_
      refine AllReadyH.cons (o := ⟨some 84, _, _, _, _, _⟩) rfl (fun K hK => ?_) AllReadyH.nil
      obtain ⟨hS1, hS2⟩ := hHeld
      go_simp
      (go_at_call 36; (with_reducible refine (TU0.out _).mono ?_); rintro e w13 ⟨rfl, hsw13⟩)
      refine hK.out _ _ (by (try dsimp only); (first | exact ⟨hS1, hS2⟩ | exact ⟨Step.of, (bcell (fut _ _)).1⟩)) (fun hHeld => ?_)
      clear hK K
      (try simp only [Act.put, List.setIfInBounds_toArray, List.set_cons_zero, List.set_cons_succ])
      refine wT 34 85 (by assumption) ?_
      refine wT 35 86 (by assumption) ?_
      refine wT 36 87 (by assumption) ?_
      refine wT 37 88 (by assumption) ?_
      refine wT 40 91 (by assumption) ?_
      refine wT 38 89 (by assumption) ?_
      refine wT 41 92 (by assumption) ?_
      refine wT 39 90 (by assumption) ?_
      refine wT 42 93 (by assumption) ?_
      refine wT 43 94 (by assumption) ?_
      refine wT 44 95 (by assumption) ?_
      refine wT 45 6 (by assumption) ?_
      refine wpAnyH_done (by kernel_rfl) ?_ _
      go_wp2_with fail
      go_ret
      exact ⟨rfl, Step.of⟩
end Go.Proofs.YtnphokhehacfnaaGreatDoor

