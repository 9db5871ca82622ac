/-
  Texts put together: Du.
-/
import Derived.Test.YtnphokhehacfnaaGreatDoorQz24
namespace Go.Proofs.YtnphokhehacfnaaGreatDoor
open Go.RowKit

theorem rem6 (x : Int) : ∃ a : Int, IntKind.i64.wrap ((IntKind.u64.wrap x).tmod 6) = a ∧ 0 ≤ a ∧ a ≤ 5 := by
  have h0 : 0 ≤ IntKind.u64.wrap x := by simp [IntKind.wrap, IntKind.bits, IntKind.signed]; omega
  have h1 : (IntKind.u64.wrap x).tmod 6 = (IntKind.u64.wrap x) % 6 := Int.tmod_eq_emod_of_nonneg h0
  have h2 := Int.emod_nonneg (IntKind.u64.wrap x) (show (6 : Int) ≠ 0 by omega)
  have h3 := Int.emod_lt_of_pos (IntKind.u64.wrap x) (show (0 : Int) < 6 by omega)
  refine ⟨_, rfl, ?_, ?_⟩ <;> rw [h1, IntKind.wrap_i64] <;> omega
theorem fine2 {t : TbA} {ys : List Int} (h : t.tb = tab2 ys) (hr : ∀ x ∈ ys, -9223372036854775808 ≤ x ∧ x ≤ 9223372036854775807) : ∀ vs ∈ t.tb.rows, ∀ v ∈ vs, FineD v := by
  intro vs hvs v hv
  rw [h] at hvs
  obtain ⟨x, hx, rfl⟩ := List.mem_map.1 hvs
  simp only [row2, List.mem_cons, List.not_mem_nil, or_false] at hv
  rcases hv with rfl | rfl
  · exact ⟨(by show 0 ≤ 9223372036854775000; decide), hr x hx⟩
  · exact ⟨by decide, by decide, by decide⟩
/-- A count by total. -/
theorem total2 {w0 w1 : World} {t : TbA} {ys : List Int} {ns : List Nod} {An : Option Addr} {cn : Nat} (w : World) (ht : t.tb = tab2 ys) (hin : TbIn w0 t) (hp : PrIn w1 ns An cn) [f0 : Fut w0 w] [f1 : Fut w1 w] (hr : ∀ x ∈ ys, -9223372036854775808 ≤ x ∧ x ≤ 9223372036854775807) (hl : ys.length ≤ 20) (h1 : predB ns = true) (h2 : checkE ns sb25 = 0) :
    Calls Tryz.prog 36 #[.agg #[.int .i64 t.s.id, .slice t.As t.s.cols.length t.cs, .int .i64 t.s.next, .int .i64 t.sid, .slice t.Af t.fs.length t.cf, .slice t.Ar t.rs.length t.cr], .agg #[.slice An ns.length cn]] w fun e w' => e = .returned (.int .i64 ((ys.filter (yesN ns)).length : Int)) ∧ Step w w' := by
  have := total_any t ns An cn w hin hp (fine2 ht hr)
  rw [ht, count2 h1 h2 hl] at this
  exact this
/-- A delete. -/
theorem apply2 {w0 w1 : World} {t : TbA} {ys : List Int} {ns : List Nod} {An : Option Addr} {cn : Nat} (w : World) (ht : t.tb = tab2 ys) (hin : TbIn w0 t) (hp : PrIn w1 ns An cn) [f0 : Fut w0 w] [f1 : Fut w1 w] (hl : ys.length ≤ 20) (h1 : predB ns = true) (h2 : checkE ns sb25 = 0) :
    Calls Tryz.prog 13 #[.agg #[.int .i64 t.s.id, .slice t.As t.s.cols.length t.cs, .int .i64 t.s.next, .int .i64 t.sid, .slice t.Af t.fs.length t.cf, .slice t.Ar t.rs.length t.cr], .agg #[.int .i64 1, .string ⟨#[]⟩, .slice none 0 0, .slice none 0 0, .slice An ns.length cn, .string ⟨#[]⟩, .string ⟨#[]⟩, .int .i64 0, .int .i64 0, .int .i64 0, .bool false, .string ⟨#[]⟩, .slice none 0 0, .int .i64 0, .int .i64 0, .int .i64 0]] w (ApplyR w (tab2 (ys.filter fun x => !yesN ns x), 0)) := by
  have := apply_take (w0 := w0) (w1 := w) t ⟨1, ⟨#[]⟩, [], none, 0, [], none, 0, ns, An, cn, ⟨#[]⟩, ⟨#[]⟩, 0, ⟨0, 0, false, ⟨#[]⟩⟩, [], none, 0, 0, 0, 0⟩ w hin ⟨SlAt.nil_, Nat.zero_le _, Nat.le_refl _, RowsIn.none_ _, fun r h => by simp at h, hp.fut, FsIn.none_ _, Nat.zero_le _, FineD.zero, (by show 0 ≤ 9223372036854775807; decide)⟩ (Or.inl rfl)
  rw [ht] at this
  rw [show applyP (tab2 ys) (OpA.op ⟨1, ⟨#[]⟩, [], none, 0, [], none, 0, ns, An, cn, ⟨#[]⟩, ⟨#[]⟩, 0, ⟨0, 0, false, ⟨#[]⟩⟩, [], none, 0, 0, 0, 0⟩) = _ from del2 h1 h2 hl] at this
  exact this
theorem none_filter (ys : List Int) : ys.filter (yesN []) = ys := List.filter_eq_self.2 fun x _ => none_yes x
set_option maxRecDepth 100000 in
set_option maxHeartbeats 16000000 in
theorem deletes_any {w0 : World} (xs : List Int) (A : Option Addr) (cap : Nat) (c v : Int) (w : World) (h : SlAt w0 w0.heap.size 1 A (intCells xs)) [f0 : Fut w0 w] (hl : xs.length ≤ 4611686018427387904) (hr : ∀ x ∈ xs, -9223372036854775808 ≤ x ∧ x ≤ 9223372036854775807) :
    Calls Tryz.prog 8 #[.slice A xs.length cap, .int .i64 c, .int .i64 v] w fun e w' => e = .returned (.bool true) ∧ Step w w' := by
  have FC : Hid (∀ (w' : World) [Fut w w'], Calls Tryz.prog 35 #[.slice A xs.length cap] w' fun e w'' => ∃ t : TbA, e = .returned (.tuple #[.agg #[.int .i64 t.s.id, .slice t.As t.s.cols.length t.cs, .int .i64 t.s.next, .int .i64 t.sid, .slice t.Af t.fs.length t.cf, .slice t.Ar t.rs.length t.cr], .bool true]) ∧ t.tb = fil25 xs ∧ TbOwnR w'' w'.heap.size t ∧ Step w' w'') := fun w' hq => haveI := Fut.tr f0 hq; filled_any xs A cap w' h hl hr
  obtain ⟨ys, hys⟩ : ∃ ys, xs.take 20 = ys := ⟨_, rfl⟩
  have HYL : Hid (ys.length ≤ 20) := by show _ ≤ _; rw [← hys, List.length_take]; omega
  have HYR : Hid (∀ x ∈ ys, -9223372036854775808 ≤ x ∧ x ≤ 9223372036854775807) := fun x hx => hr x (List.mem_of_mem_take (by rw [hys]; exact hx))
  have HYF : Hid (fil25 xs = tab2 ys) := by show _ = _; rw [← hys]; rfl
  clear hr
  go_enter Tryz.func8, Tryz.ntmps8
  go_upto_region 4 with (first | (go_at_call 31; (with_reducible refine (awake25_any _).mono ?_); rintro e w1 ⟨rfl, hs1⟩) | (go_at_call 35; (with_reducible refine (FC.out _).mono ?_); rintro e w2 ⟨tA, rfl, ht1, ho1, hs2⟩; have HT1 := hide ht1; have HO1 := hide ho1; clear ht1 ho1))
  rw [HYF.out] at HT1
  obtain ⟨X4, hX4⟩ : ∃ x : World, x = w2.alloc (.cells #[.int .i64 tA.s.id, .slice tA.As tA.s.cols.length tA.cs, .int .i64 tA.s.next, .int .i64 tA.sid, .slice tA.Af tA.fs.length tA.cf, .slice tA.Ar tA.rs.length tA.cr] 30) := ⟨_, rfl⟩
  have SX4 : Step w2 X4 := by rw [hX4]; exact Step.of
  have HTB : Hid (Blk X4 w2.heap.size 30 [.int .i64 tA.s.id, .slice tA.As tA.s.cols.length tA.cs, .int .i64 tA.s.next, .int .i64 tA.sid, .slice tA.Af tA.fs.length tA.cf, .slice tA.Ar tA.rs.length tA.cr]) := by rw [hX4]; exact Blk.new w2 _ 30
  rw [← hX4]
  clear hX4 hys
  have HTI : Hid (TbIn X4 tA) := tb_in HO1.out.fut (by rw [HT1.out]; exact tab2_may HYL.out)
  have TN : Hid (∀ (w' : World) [Fut X4 w'], Calls Tryz.prog 36 #[.agg #[.int .i64 tA.s.id, .slice tA.As tA.s.cols.length tA.cs, .int .i64 tA.s.next, .int .i64 tA.sid, .slice tA.Af tA.fs.length tA.cf, .slice tA.Ar tA.rs.length tA.cr], .agg #[.slice none 0 0]] w' fun e w'' => e = .returned (.int .i64 (ys.length : Int)) ∧ Step w' w'') := fun w' _ => by
    have := total2 (w0 := X4) (w1 := X4) (ns := []) w' HT1.out HTI.out (PrIn.none_ X4) HYR.out HYL.out none_pred none_check
    rw [none_filter] at this
    exact this
  obtain ⟨k, hk, hk0, hk5⟩ := rem6 c
  have HK0 := hide hk0; have HK5 := hide hk5
  clear hk0 hk5
  obtain ⟨t0, t1, t2, t3, t4, t5⟩ := At.z6 (HTB.out.fut (w' := X4)).at0
  have lt := (HTB.out.fut (w' := X4)).lt
  go_upto_region 6 with (go_at_call 36; (with_reducible refine (TN.out _).mono ?_); rintro e w3 ⟨rfl, hs3⟩; clear t0 t1 t2 t3 t4 t5 lt; obtain ⟨t0, t1, t2, t3, t4, t5⟩ := At.z6 (HTB.out.fut (w' := w3)).at0; have lt := (HTB.out.fut (w' := w3)).lt)
  clear hk
  obtain ⟨m, hm⟩ : ∃ m, (ys.filter (yesN [cmpN k v])).length = m := ⟨_, rfl⟩
  obtain ⟨q, hq⟩ : ∃ q, (ys.filter fun x => !yesN [cmpN k v] x).length = q := ⟨_, rfl⟩
  have HM := hide hm; have HQ := hide hq
  have hmn : m ≤ ys.length := by rw [← hm]; exact List.length_filter_le _ _
  have hqn : q = ys.length - m := by rw [← hq, ← hm]; exact filt_len _ _
  have hyl := HYL.out
  have HQE : Hid (((q : Int) == (ys.length : Int) - (m : Int)) = true ∧ wrap64 ((ys.length : Int) - (m : Int)) = (ys.length : Int) - (m : Int) ∧ IntKind.i64.wrap ((ys.length : Int) - (m : Int)) = (ys.length : Int) - (m : Int)) := ⟨by rw [beq_iff_eq]; omega, by rw [wrap64]; omega, by rw [IntKind.wrap_i64]; omega⟩
  clear hm hq hqn hmn hyl
  have TC : Hid (∀ {wa : World} {b : Nat}, Blk wa b 77 [.int .i64 1, .string ⟨#[97]⟩, .int .i64 k, .int .i64 1, .int .i64 v, .bool false, .string ⟨#[]⟩, .int .i64 0, .int .i64 0] → ∀ (w' : World) [Fut X4 w'] [Fut wa w'], Calls Tryz.prog 36 #[.agg #[.int .i64 tA.s.id, .slice tA.As tA.s.cols.length tA.cs, .int .i64 tA.s.next, .int .i64 tA.sid, .slice tA.Af tA.fs.length tA.cf, .slice tA.Ar tA.rs.length tA.cr], .agg #[.slice (some ⟨b, 0, none⟩) 1 1]] w' fun e w'' => e = .returned (.int .i64 (m : Int)) ∧ Step w' w'') := by
    intro wa b hb w' _ _
    have := total2 (w0 := X4) (w1 := wa) (ns := [cmpN k v]) w' HT1.out HTI.out (pr_cmp hb) HYR.out HYL.out (cmp_pred HK0.out HK5.out) (cmp_check HK0.out HK5.out)
    rw [HM.out] at this
    exact this
  have AP1 : Hid (∀ {wa : World} {b : Nat}, Blk wa b 77 [.int .i64 1, .string ⟨#[97]⟩, .int .i64 k, .int .i64 1, .int .i64 v, .bool false, .string ⟨#[]⟩, .int .i64 0, .int .i64 0] → ∀ (w' : World) [Fut X4 w'] [Fut wa w'], Calls Tryz.prog 13 #[.agg #[.int .i64 tA.s.id, .slice tA.As tA.s.cols.length tA.cs, .int .i64 tA.s.next, .int .i64 tA.sid, .slice tA.Af tA.fs.length tA.cf, .slice tA.Ar tA.rs.length tA.cr], .agg #[.int .i64 1, .string ⟨#[]⟩, .slice none 0 0, .slice none 0 0, .slice (some ⟨b, 0, none⟩) 1 1, .string ⟨#[]⟩, .string ⟨#[]⟩, .int .i64 0, .int .i64 0, .int .i64 0, .bool false, .string ⟨#[]⟩, .slice none 0 0, .int .i64 0, .int .i64 0, .int .i64 0]] w' (ApplyR w' (tab2 (ys.filter fun x => !yesN [cmpN k v] x), 0))) := by
    intro wa b hb w' _ _
    have := apply2 (w0 := X4) (w1 := wa) (ns := [cmpN k v]) w' HT1.out HTI.out (pr_cmp hb) HYL.out (cmp_pred HK0.out HK5.out) (cmp_check HK0.out HK5.out)
    exact this
  have AP2 : Hid (∀ (w' : World) [Fut X4 w'], Calls Tryz.prog 13 #[.agg #[.int .i64 tA.s.id, .slice tA.As tA.s.cols.length tA.cs, .int .i64 tA.s.next, .int .i64 tA.sid, .slice tA.Af tA.fs.length tA.cf, .slice tA.Ar tA.rs.length tA.cr], .agg #[.int .i64 1, .string ⟨#[]⟩, .slice none 0 0, .slice none 0 0, .slice none 0 0, .string ⟨#[]⟩, .string ⟨#[]⟩, .int .i64 0, .int .i64 0, .int .i64 0, .bool false, .string ⟨#[]⟩, .slice none 0 0, .int .i64 0, .int .i64 0, .int .i64 0]] w' (ApplyR w' (tab2 [], 0))) := by
    intro w' _
    have := apply2 (w0 := X4) (w1 := X4) (ns := []) w' HT1.out HTI.out (PrIn.none_ X4) HYL.out none_pred none_check
    rw [show ys.filter (fun x => !yesN [] x) = [] by rw [List.filter_eq_nil_iff]; intro x _; rw [none_yes]; simp] at this
    exact this
  refine wp_region_held_drew (S := (fun w' => Step w3 w' ∧ (∀ b o, b < w3.heap.size → w'.cell? ⟨b, o, none⟩ = w3.cell? ⟨b, o, none⟩))) (by kernel_rfl) (by (try dsimp only); (first | exact ⟨hS1, hS2⟩ | exact ⟨Step.of, (bcell (fut _ _)).1⟩)) (fun hHeld => ?_)
  refine wpAnyH_take (i := 0) (oi := ⟨some 30, _, _, _, _, _⟩) (v := ?_) rfl (by kernel_rfl) (by kernel_rfl) (by kernel_rfl) (fun _ _ _ h => h) (Or.inl ⟨by rfl, ?_⟩) (by assumption) ?_
  rotate_left
  · ((intro w hSw); (try dsimp only at hSw); go_simp; (try with_reducible rfl))
  (try simp only [Act.put, List.setIfInBounds_toArray, List.set_cons_zero, List.set_cons_succ])
  refine wpAnyH_take (i := 1) (oi := ⟨some 31, _, _, _, _, _⟩) (v := ?_) rfl (by kernel_rfl) (by kernel_rfl) (by kernel_rfl) (fun _ _ _ h => h) (Or.inl ⟨by rfl, ?_⟩) (by assumption) ?_
  rotate_left
  · ((intro w hSw); (try dsimp only at hSw); go_simp; (try with_reducible rfl))
  (try simp only [Act.put, List.setIfInBounds_toArray, List.set_cons_zero, List.set_cons_succ])
  refine wpAnyH_take (i := 2) (oi := ⟨some 32, _, _, _, _, _⟩) (v := ?_) rfl (by kernel_rfl) (by kernel_rfl) (by kernel_rfl) (fun _ _ _ h => h) (Or.inl ⟨by rfl, ?_⟩) (by assumption) ?_
  rotate_left
  · ((intro w hSw); (try dsimp only at hSw); go_simp; (try with_reducible rfl))
  (try simp only [Act.put, List.setIfInBounds_toArray, List.set_cons_zero, List.set_cons_succ])
  refine wpAnyH_ready (rs := [3]) (by kernel_rfl) (by simp) ?_
  refine AllReadyH.cons (o := ⟨some 33, _, _, _, _, _⟩) rfl (fun K hK => ?_) AllReadyH.nil
  obtain ⟨hS1, hS2⟩ := hHeld
  go_simp
  (go_at_call 37; (with_reducible refine (cmp25_any _ _ _).mono ?_); rintro e w5 ⟨b5, rfl, HB5_, hsw5⟩; have HB5 := hide HB5_; clear HB5_)
  refine hK.out _ _ (by (try dsimp only); (first | exact ⟨hS1, hS2⟩ | exact ⟨Step.of, (bcell (fut _ _)).1⟩)) (fun hHeld => ?_)
  clear hK K
  (try simp only [Act.put, List.setIfInBounds_toArray, List.set_cons_zero, List.set_cons_succ])
  refine wpAnyH_ready (rs := [4]) (by kernel_rfl) (by simp) ?_
  refine AllReadyH.cons (o := ⟨some 34, _, _, _, _, _⟩) rfl (fun K hK => ?_) AllReadyH.nil
  obtain ⟨hS1, hS2⟩ := hHeld
  go_simp
  (go_at_call 36; (with_reducible refine (TC.out HB5.out _).mono ?_); rintro e w6 ⟨rfl, hsw6⟩)
  refine hK.out _ _ (by (try dsimp only); (first | exact ⟨hS1, hS2⟩ | exact ⟨Step.of, (bcell (fut _ _)).1⟩)) (fun hHeld => ?_)
  clear hK K
  (try simp only [Act.put, List.setIfInBounds_toArray, List.set_cons_zero, List.set_cons_succ])
  refine wpAnyH_take (i := 5) (oi := ⟨some 11, _, _, _, _, _⟩) (v := ?_) rfl (by kernel_rfl) (by kernel_rfl) (by kernel_rfl) (fun _ _ _ h => h) (Or.inl ⟨by rfl, ?_⟩) (by assumption) ?_
  rotate_left
  · ((intro w hSw); (try dsimp only at hSw); go_simp; (try with_reducible rfl))
  (try simp only [Act.put, List.setIfInBounds_toArray, List.set_cons_zero, List.set_cons_succ])
  refine wpAnyH_done (by kernel_rfl) ?_ _
  go_wp2_with fail
  obtain ⟨X6, hX6⟩ : ∃ x : World, x = w6 := ⟨_, rfl⟩
  rw [← hX6] at hsw6 ⊢
  clear hX6 t0 t1 t2 t3 t4 t5 lt
  obtain ⟨t0, t1, t2, t3, t4, t5⟩ := At.z6 (HTB.out.fut (w' := X6)).at0
  have lt := (HTB.out.fut (w' := X6)).lt
  go_upto_region 7 with fail
  refine wp_region_held_drew (S := (fun w' => Step X6 w' ∧ (∀ b o, b < X6.heap.size → w'.cell? ⟨b, o, none⟩ = X6.cell? ⟨b, o, none⟩))) (by kernel_rfl) (by (try dsimp only); (first | exact ⟨hS1, hS2⟩ | exact ⟨Step.of, (bcell (fut _ _)).1⟩)) (fun hHeld => ?_)
  refine wpAnyH_take (i := 0) (oi := ⟨some 36, _, _, _, _, _⟩) (v := ?_) rfl (by kernel_rfl) (by kernel_rfl) (by kernel_rfl) (fun _ _ _ h => h) (Or.inl ⟨by rfl, ?_⟩) (by assumption) ?_
  rotate_left
  · ((intro w hSw); (try dsimp only at hSw); go_simp; (try with_reducible rfl))
  (try simp only [Act.put, List.setIfInBounds_toArray, List.set_cons_zero, List.set_cons_succ])
  refine wpAnyH_take (i := 1) (oi := ⟨some 37, _, _, _, _, _⟩) (v := ?_) rfl (by kernel_rfl) (by kernel_rfl) (by kernel_rfl) (fun _ _ _ h => h) (Or.inl ⟨by rfl, ?_⟩) (by assumption) ?_
  rotate_left
  · ((intro w hSw); (try dsimp only at hSw); go_simp; (try with_reducible rfl))
  (try simp only [Act.put, List.setIfInBounds_toArray, List.set_cons_zero, List.set_cons_succ])
  refine wpAnyH_take (i := 2) (oi := ⟨some 38, _, _, _, _, _⟩) (v := ?_) rfl (by kernel_rfl) (by kernel_rfl) (by kernel_rfl) (fun _ _ _ h => h) (Or.inl ⟨by rfl, ?_⟩) (by assumption) ?_
  rotate_left
  · ((intro w hSw); (try dsimp only at hSw); go_simp; (try with_reducible rfl))
  (try simp only [Act.put, List.setIfInBounds_toArray, List.set_cons_zero, List.set_cons_succ])
  refine wpAnyH_ready (rs := [3, 9]) (by kernel_rfl) (by simp) ?_
  refine AllReadyH.cons (o := ⟨some 39, _, _, _, _, _⟩) rfl (fun K hK => ?_) (AllReadyH.cons (o := ⟨some 12, _, _, _, _, _⟩) rfl (fun K hK => ?_) AllReadyH.nil)
  · obtain ⟨hS1, hS2⟩ := hHeld
    go_simp
    (go_at_call 37; (with_reducible refine (cmp25_any _ _ _).mono ?_); rintro e w7 ⟨b7, rfl, HB7_, hsw7⟩; have HB7 := hide HB7_; clear HB7_; try (clear z0 z1 z2 z3 z4 z5 lz fz; obtain ⟨z0, z1, z2, z3, z4, z5⟩ := At.z6 (HZ9.out.fut (w' := w7)).at0; have lz := (HZ9.out.fut (w' := w7)).lt; have fz := (HZ9.out.fut (w' := w7)).free))
    refine hK.out _ _ (by (try dsimp only); (first | exact ⟨hS1, hS2⟩ | exact ⟨Step.of, (bcell (fut _ _)).1⟩)) (fun hHeld => ?_)
    clear hK K
    (try simp only [Act.put, List.setIfInBounds_toArray, List.set_cons_zero, List.set_cons_succ])
    refine wpAnyH_take (i := 4) (oi := ⟨some 40, _, _, _, _, _⟩) (v := ?_) rfl (by kernel_rfl) (by kernel_rfl) (by kernel_rfl) (fun _ _ _ h => h) (Or.inl ⟨by rfl, ?_⟩) (by assumption) ?_
    rotate_left
    · ((intro w hSw); (try dsimp only at hSw); go_simp; (try with_reducible rfl))
    (try simp only [Act.put, List.setIfInBounds_toArray, List.set_cons_zero, List.set_cons_succ])
    refine wpAnyH_ready (rs := [5, 9]) (by kernel_rfl) (by simp) ?_
    refine AllReadyH.cons (o := ⟨some 41, _, _, _, _, _⟩) rfl (fun K hK => ?_) (AllReadyH.cons (o := ⟨some 12, _, _, _, _, _⟩) rfl (fun K hK => ?_) AllReadyH.nil)
    · obtain ⟨hS1, hS2⟩ := hHeld
      go_simp
      (go_at_call 13; (with_reducible refine (AP1.out HB7.out _).mono ?_); rintro e w8 ⟨tB, rfl, ht2, ho2, hs8⟩; have HT2 := hide ht2; have HO2 := hide ho2; clear ht2 ho2; try (clear z0 z1 z2 z3 z4 z5 lz fz; obtain ⟨z0, z1, z2, z3, z4, z5⟩ := At.z6 (HZ9.out.fut (w' := w8)).at0; have lz := (HZ9.out.fut (w' := w8)).lt; have fz := (HZ9.out.fut (w' := w8)).free))
      refine hK.out _ _ (by (try dsimp only); (first | exact ⟨hS1, hS2⟩ | exact ⟨Step.of, (bcell (fut _ _)).1⟩)) (fun hHeld => ?_)
      clear hK K
      refine wpAnyH_take (i := 6) (oi := ⟨some 35, _, _, _, _, _⟩) (v := ?_) rfl (by kernel_rfl) (by kernel_rfl) (by kernel_rfl) (fun _ _ _ h => h) (Or.inl ⟨by rfl, ?_⟩) (by assumption) ?_
      rotate_left
      · ((intro w hSw); (try dsimp only at hSw); go_simp; (try with_reducible rfl))
      (try simp only [Act.put, List.setIfInBounds_toArray, List.set_cons_zero, List.set_cons_succ])
      refine wpAnyH_take (i := 7) (oi := ⟨some 42, _, _, _, _, _⟩) (v := ?_) rfl (by kernel_rfl) (by kernel_rfl) (by kernel_rfl) (fun _ _ _ h => h) (Or.inl ⟨by rfl, ?_⟩) (by assumption) ?_
      rotate_left
      · ((intro w hSw); (try dsimp only at hSw); go_simp; (try with_reducible rfl))
      (try simp only [Act.put, List.setIfInBounds_toArray, List.set_cons_zero, List.set_cons_succ])
      refine wpAnyH_take (i := 8) (oi := ⟨some 43, _, _, _, _, _⟩) (v := ?_) rfl (by kernel_rfl) (by kernel_rfl) (by kernel_rfl) (fun _ _ _ h => h) (Or.inl ⟨by rfl, ?_⟩) (by assumption) ?_
      rotate_left
      · ((intro w hSw); (try dsimp only at hSw); go_simp; (try with_reducible rfl))
      (try simp only [Act.put, List.setIfInBounds_toArray, List.set_cons_zero, List.set_cons_succ])
      refine wpAnyH_ready (rs := [9]) (by kernel_rfl) (by simp) ?_
      refine AllReadyH.cons (o := ⟨some 12, _, _, _, _, _⟩) rfl (fun K hK => ?_) AllReadyH.nil
      go_simp
      first | (have HZ9 := hide (Blk.new w8 [.int .i64 0, .slice none 0 0, .int .i64 0, .int .i64 0, .slice none 0 0, .slice none 0 0] 30)) | (have HZ9 := hide (Blk.new w7 [.int .i64 0, .slice none 0 0, .int .i64 0, .int .i64 0, .slice none 0 0, .slice none 0 0] 30)) | (have HZ9 := hide (Blk.new X6 [.int .i64 0, .slice none 0 0, .int .i64 0, .int .i64 0, .slice none 0 0, .slice none 0 0] 30))
      obtain ⟨z0, z1, z2, z3, z4, z5⟩ := At.z6 HZ9.out.at0
      have lz := HZ9.out.lt
      have fz := HZ9.out.free
      refine hK.out _ _ (by (try dsimp only); (first | exact ⟨hS1, hS2⟩ | exact ⟨Step.of, (bcell (fut _ _)).1⟩)) (fun hHeld => ?_)
      clear hK K
      refine wpAnyH_ready (rs := [10]) (by kernel_rfl) (by simp) ?_
      refine AllReadyH.cons (o := ⟨none, _, _, _, _, _⟩) rfl (fun K hK => ?_) AllReadyH.nil
      go_simp
      refine hK.out _ _ (by (try dsimp only); (constructor; exact Step.of; intro b o h; exact (fut X6 _).cell (p := ⟨b, o, none⟩) h)) (fun hHeld => ?_)
      clear hK K
      (try simp only [Act.put, List.setIfInBounds_toArray, List.set_cons_zero, List.set_cons_succ])
      refine wpAnyH_take (i := 11) (oi := ⟨some 13, _, _, _, _, _⟩) (v := ?_) rfl (by kernel_rfl) (by kernel_rfl) (by kernel_rfl) (fun _ _ _ h => h) (Or.inl ⟨by rfl, ?_⟩) (by assumption) ?_
      rotate_left
      · ((intro w hSw); (try dsimp only at hSw); go_simp; (try with_reducible rfl))
      (try simp only [Act.put, List.setIfInBounds_toArray, List.set_cons_zero, List.set_cons_succ])
      refine wpAnyH_done (by kernel_rfl) ?_ _
      go_upto_region 8 with fail
      obtain ⟨X8, hX8⟩ : ∃ x : World, x = w8.alloc (.cells #[.int .i64 tB.s.id, .slice tB.As tB.s.cols.length tB.cs, .int .i64 tB.s.next, .int .i64 tB.sid, .slice tB.Af tB.fs.length tB.cf, .slice tB.Ar tB.rs.length tB.cr] 30) := ⟨_, rfl⟩
      have HTB2 := hide (show Blk X8 w8.heap.size 30 [.int .i64 tB.s.id, .slice tB.As tB.s.cols.length tB.cs, .int .i64 tB.s.next, .int .i64 tB.sid, .slice tB.Af tB.fs.length tB.cf, .slice tB.Ar tB.rs.length tB.cr] by rw [hX8]; exact Blk.new w8 _ 30)
      have SX8' : Step w8 X8 := by rw [hX8]; exact Step.of
      have HO8 := hide (show TbOwnR X8 _ tB from HO2.out.fut)
      have SX8 : Step X6 X8 := ⟨fut X6 X8⟩
      rw [← hX8]
      clear hX8 SX8' z0 z1 z2 z3 z4 z5 lz fz
      clear t0 t1 t2 t3 t4 t5 lt
      have HFL : Hid ((ys.filter fun x => !yesN [cmpN k v] x).length ≤ 20) := by show _ ≤ _; have := List.length_filter_le (fun x => !yesN [cmpN k v] x) ys; have := HYL.out; omega
      have HFR : Hid (∀ x ∈ ys.filter fun x => !yesN [cmpN k v] x, -9223372036854775808 ≤ x ∧ x ≤ 9223372036854775807) := fun x hx => HYR.out x (List.mem_filter.1 hx).1
      have HTI2 : Hid (TbIn X8 tB) := tb_in HO8.out (by rw [HT2.out]; exact tab2_may HFL.out)
      have TU0 : Hid (∀ (w' : World) [Fut X8 w'], Calls Tryz.prog 36 #[.agg #[.int .i64 tB.s.id, .slice tB.As tB.s.cols.length tB.cs, .int .i64 tB.s.next, .int .i64 tB.sid, .slice tB.Af tB.fs.length tB.cf, .slice tB.Ar tB.rs.length tB.cr], .agg #[.slice none 0 0]] w' fun e w'' => e = .returned (.int .i64 (q : Int)) ∧ Step w' w'') := fun w' _ => by
        have := total2 (w0 := X8) (w1 := X8) (ns := []) w' HT2.out HTI2.out (PrIn.none_ X8) HFR.out HFL.out none_pred none_check
        rw [none_filter, HQ.out] at this
        exact this
      have TU1 : Hid (∀ {wa : World} {b : Nat}, Blk wa b 77 [.int .i64 1, .string ⟨#[97]⟩, .int .i64 k, .int .i64 1, .int .i64 v, .bool false, .string ⟨#[]⟩, .int .i64 0, .int .i64 0] → ∀ (w' : World) [Fut X8 w'] [Fut wa w'], Calls Tryz.prog 36 #[.agg #[.int .i64 tB.s.id, .slice tB.As tB.s.cols.length tB.cs, .int .i64 tB.s.next, .int .i64 tB.sid, .slice tB.Af tB.fs.length tB.cf, .slice tB.Ar tB.rs.length tB.cr], .agg #[.slice (some ⟨b, 0, none⟩) 1 1]] w' fun e w'' => e = .returned (.int .i64 0) ∧ Step w' w'') := by
        intro wa b hb w' _ _
        have := total2 (w0 := X8) (w1 := wa) (ns := [cmpN k v]) w' HT2.out HTI2.out (pr_cmp hb) HFR.out HFL.out (cmp_pred HK0.out HK5.out) (cmp_check HK0.out HK5.out)
        rw [filt_none] at this
        exact this
      obtain ⟨t0, t1, t2, t3, t4, t5⟩ := At.z6 (HTB.out.fut (w' := X8)).at0
      have lt := (HTB.out.fut (w' := X8)).lt
      go_upto_region 9 with (go_at_call 13; (with_reducible refine (AP2.out _).mono ?_); rintro e w9 ⟨tC, rfl, ht3, ho3, hs9⟩; have HT3 := hide ht3; clear ht3 ho3)
      obtain ⟨X9, hX9⟩ : ∃ x : World, x = w9.alloc (.cells #[.int .i64 tC.s.id, .slice tC.As tC.s.cols.length tC.cs, .int .i64 tC.s.next, .int .i64 tC.sid, .slice tC.Af tC.fs.length tC.cf, .slice tC.Ar tC.rs.length tC.cr] 30) := ⟨_, rfl⟩
      have SX9 : Step w9 X9 := by rw [hX9]; exact Step.of
      have HTB3 : Hid (Blk X9 w9.heap.size 30 [.int .i64 tC.s.id, .slice tC.As tC.s.cols.length tC.cs, .int .i64 tC.s.next, .int .i64 tC.sid, .slice tC.Af tC.fs.length tC.cf, .slice tC.Ar tC.rs.length tC.cr]) := by rw [hX9]; exact Blk.new w9 _ 30
      rw [← hX9]
      clear hX9 t0 t1 t2 t3 t4 t5 lt
      have HZL : Hid (tC.rs.length = 0) := by
        show _ = _
        have := congrArg (fun q => q.rows.length) HT3.out
        simpa [TbA.tb, tab2] using this
      have hzl : (tC.rs.length : Int) = 0 := by rw [HZL.out]; rfl
      obtain ⟨t0, t1, t2, t3, t4, t5⟩ := At.z6 (HTB2.out.fut (w' := X9)).at0
      have lt := (HTB2.out.fut (w' := X9)).lt
      obtain ⟨p0, p1, p2, p3, p4, p5⟩ := At.z6 (HTB3.out.fut (w' := X9)).at0
      have lp := (HTB3.out.fut (w' := X9)).lt
      have hqe := HQE.out.1
      have hqw := HQE.out.2.1
      have hqe2 : ((q : Int) == wrap64 ((ys.length : Int) - (m : Int))) = true := by rw [hqw]; exact hqe
      have hqw3 : IntKind.i64.wrap ((ys.length : Int) - (m : Int)) = (ys.length : Int) - (m : Int) := HQE.out.2.2
      have hqe3 : ((q : Int) == IntKind.i64.wrap ((ys.length : Int) - (m : Int))) = true := by rw [hqw3]; exact hqe
      refine wp_region_held_drew (S := (fun w' => Step X9 w' ∧ (∀ b o, b < X9.heap.size → w'.cell? ⟨b, o, none⟩ = X9.cell? ⟨b, o, none⟩))) (by kernel_rfl) (by (try dsimp only); (first | exact ⟨hS1, hS2⟩ | exact ⟨Step.of, (bcell (fut _ _)).1⟩)) (fun hHeld => ?_)
      refine wpAnyH_take (i := 0) (oi := ⟨some 50, _, _, _, _, _⟩) (v := ?_) rfl (by kernel_rfl) (by kernel_rfl) (by kernel_rfl) (fun _ _ _ h => h) (Or.inl ⟨by rfl, ?_⟩) (by assumption) ?_
      rotate_left
      · ((intro w hSw); (try dsimp only at hSw); go_simp; (try with_reducible rfl))
      (try simp only [Act.put, List.setIfInBounds_toArray, List.set_cons_zero, List.set_cons_succ])
      refine wpAnyH_take (i := 1) (oi := ⟨some 51, _, _, _, _, _⟩) (v := ?_) rfl (by kernel_rfl) (by kernel_rfl) (by kernel_rfl) (fun _ _ _ h => h) (Or.inl ⟨by rfl, ?_⟩) (by assumption) ?_
      rotate_left
      · ((intro w hSw); (try dsimp only at hSw); go_simp; (try with_reducible rfl))
      (try simp only [Act.put, List.setIfInBounds_toArray, List.set_cons_zero, List.set_cons_succ])
      refine wpAnyH_take (i := 2) (oi := ⟨some 52, _, _, _, _, _⟩) (v := ?_) rfl (by kernel_rfl) (by kernel_rfl) (by kernel_rfl) (fun _ _ _ h => h) (Or.inl ⟨by rfl, ?_⟩) (by assumption) ?_
      rotate_left
      · ((intro w hSw); (try dsimp only at hSw); go_simp; (try with_reducible rfl))
      (try simp only [Act.put, List.setIfInBounds_toArray, List.set_cons_zero, List.set_cons_succ])
      refine wpAnyH_take (i := 3) (oi := ⟨some 53, _, _, _, _, _⟩) (v := ?_) rfl (by kernel_rfl) (by kernel_rfl) (by kernel_rfl) (fun _ _ _ h => h) (Or.inl ⟨by rfl, ?_⟩) (by assumption) ?_
      rotate_left
      · ((intro w hSw); (try dsimp only at hSw); go_simp; (try with_reducible rfl))
      (try simp only [Act.put, List.setIfInBounds_toArray, List.set_cons_zero, List.set_cons_succ])
      refine wpAnyH_take (i := 4) (oi := ⟨some 54, _, _, _, _, _⟩) (v := ?_) rfl (by kernel_rfl) (by kernel_rfl) (by kernel_rfl) (fun _ _ _ h => h) (Or.inl ⟨by rfl, ?_⟩) (by assumption) ?_
      rotate_left
      · ((intro w hSw); (try dsimp only at hSw); go_simp; (try with_reducible rfl))
      (try simp only [Act.put, List.setIfInBounds_toArray, List.set_cons_zero, List.set_cons_succ])
      refine wpAnyH_take (i := 5) (oi := ⟨some 55, _, _, _, _, _⟩) (v := ?_) rfl (by kernel_rfl) (by kernel_rfl) (by kernel_rfl) (fun _ _ _ h => h) (Or.inl ⟨by rfl, ?_⟩) (by assumption) ?_
      rotate_left
      · ((intro w hSw); (try dsimp only at hSw); go_simp; (try with_reducible rfl))
      (try simp only [Act.put, List.setIfInBounds_toArray, List.set_cons_zero, List.set_cons_succ])
      refine wpAnyH_take (i := 6) (oi := ⟨some 56, _, _, _, _, _⟩) (v := ?_) rfl (by kernel_rfl) (by kernel_rfl) (by kernel_rfl) (fun _ _ _ h => h) (Or.inl ⟨by rfl, ?_⟩) (by assumption) ?_
      rotate_left
      · ((intro w hSw); (try dsimp only at hSw); go_simp; (try with_reducible rfl))
      (try simp only [Act.put, List.setIfInBounds_toArray, List.set_cons_zero, List.set_cons_succ])
      refine wpAnyH_take (i := 7) (oi := ⟨some 57, _, _, _, _, _⟩) (v := ?_) rfl (by kernel_rfl) (by kernel_rfl) (by kernel_rfl) (fun _ _ _ h => h) (Or.inl ⟨by rfl, ?_⟩) (by assumption) ?_
      rotate_left
      · ((intro w hSw); (try dsimp only at hSw); go_simp; (try with_reducible rfl))
      (try simp only [Act.put, List.setIfInBounds_toArray, List.set_cons_zero, List.set_cons_succ])
      refine wpAnyH_take (i := 9) (oi := ⟨some 59, _, _, _, _, _⟩) (v := ?_) rfl (by kernel_rfl) (by kernel_rfl) (by kernel_rfl) (fun _ _ _ h => h) (Or.inl ⟨by rfl, ?_⟩) (by assumption) ?_
      rotate_left
      · ((intro w hSw); (try dsimp only at hSw); go_simp; (try with_reducible rfl))
      (try simp only [Act.put, List.setIfInBounds_toArray, List.set_cons_zero, List.set_cons_succ])
      refine wpAnyH_take (i := 10) (oi := ⟨some 60, _, _, _, _, _⟩) (v := ?_) rfl (by kernel_rfl) (by kernel_rfl) (by kernel_rfl) (fun _ _ _ h => h) (Or.inl ⟨by rfl, ?_⟩) (by assumption) ?_
      rotate_left
      · ((intro w hSw); (try dsimp only at hSw); go_simp; (try with_reducible rfl))
      (try simp only [Act.put, List.setIfInBounds_toArray, List.set_cons_zero, List.set_cons_succ])
      refine wpAnyH_take (i := 11) (oi := ⟨some 61, _, _, _, _, _⟩) (v := ?_) rfl (by kernel_rfl) (by kernel_rfl) (by kernel_rfl) (fun _ _ _ h => h) (Or.inl ⟨by rfl, ?_⟩) (by assumption) ?_
      rotate_left
      · ((intro w hSw); (try dsimp only at hSw); go_simp; (try with_reducible rfl))
      (try simp only [Act.put, List.setIfInBounds_toArray, List.set_cons_zero, List.set_cons_succ])
      refine wpAnyH_ready (rs := [8]) (by kernel_rfl) (by simp) ?_
      refine AllReadyH.cons (o := ⟨some 58, _, _, _, _, _⟩) rfl (fun K hK => ?_) AllReadyH.nil
      obtain ⟨hS1, hS2⟩ := hHeld
      go_simp
      (go_at_call 36; (with_reducible refine (TU0.out _).mono ?_); rintro e w10 ⟨rfl, hs10⟩)
      refine hK.out _ _ (by (try dsimp only); (first | exact ⟨hS1, hS2⟩ | exact ⟨Step.of, (bcell (fut _ _)).1⟩)) (fun hHeld => ?_)
      clear hK K
      (try simp only [Act.put, List.setIfInBounds_toArray, List.set_cons_zero, List.set_cons_succ])
      refine wpAnyH_take (i := 12) (oi := ⟨some 62, _, _, _, _, _⟩) (v := ?_) rfl (by kernel_rfl) (by kernel_rfl) (by kernel_rfl) (fun _ _ _ h => h) (Or.inl ⟨by rfl, ?_⟩) (by assumption) ?_
      rotate_left
      · ((intro w hSw); (try dsimp only at hSw); go_simp; (try with_reducible rfl))
      (try simp only [Act.put, List.setIfInBounds_toArray, List.set_cons_zero, List.set_cons_succ])
      refine wpAnyH_take (i := 13) (oi := ⟨some 63, _, _, _, _, _⟩) (v := ?_) rfl (by kernel_rfl) (by kernel_rfl) (by kernel_rfl) (fun _ _ _ h => h) (Or.inl ⟨by rfl, ?_⟩) (by assumption) ?_
      rotate_left
      · ((intro w hSw); (try dsimp only at hSw); go_simp; (try with_reducible rfl))
      (try simp only [Act.put, List.setIfInBounds_toArray, List.set_cons_zero, List.set_cons_succ])
      refine wpAnyH_take (i := 14) (oi := ⟨some 64, _, _, _, _, _⟩) (v := ?_) rfl (by kernel_rfl) (by kernel_rfl) (by kernel_rfl) (fun _ _ _ h => h) (Or.inl ⟨by rfl, ?_⟩) (by assumption) ?_
      rotate_left
      · ((intro w hSw); (try dsimp only at hSw); go_simp; (try with_reducible rfl))
      (try simp only [Act.put, List.setIfInBounds_toArray, List.set_cons_zero, List.set_cons_succ])
      refine wpAnyH_take (i := 15) (oi := ⟨some 65, _, _, _, _, _⟩) (v := ?_) rfl (by kernel_rfl) (by kernel_rfl) (by kernel_rfl) (fun _ _ _ h => h) (Or.inl ⟨by rfl, ?_⟩) (by assumption) ?_
      rotate_left
      · ((intro w hSw); (try dsimp only at hSw); go_simp; (try with_reducible rfl))
      (try simp only [Act.put, List.setIfInBounds_toArray, List.set_cons_zero, List.set_cons_succ])
      refine wpAnyH_take (i := 16) (oi := ⟨some 66, _, _, _, _, _⟩) (v := ?_) rfl (by kernel_rfl) (by kernel_rfl) (by kernel_rfl) (fun _ _ _ h => h) (Or.inl ⟨by rfl, ?_⟩) (by assumption) ?_
      rotate_left
      · ((intro w hSw); (try dsimp only at hSw); go_simp; (try with_reducible rfl))
      (try simp only [Act.put, List.setIfInBounds_toArray, List.set_cons_zero, List.set_cons_succ])
      refine wpAnyH_take (i := 17) (oi := ⟨some 67, _, _, _, _, _⟩) (v := ?_) rfl (by kernel_rfl) (by kernel_rfl) (by kernel_rfl) (fun _ _ _ h => h) (Or.inl ⟨by rfl, ?_⟩) (by assumption) ?_
      rotate_left
      · ((intro w hSw); (try dsimp only at hSw); go_simp; (try with_reducible rfl))
      (try simp only [Act.put, List.setIfInBounds_toArray, List.set_cons_zero, List.set_cons_succ])
      refine wpAnyH_ready (rs := [18]) (by kernel_rfl) (by simp) ?_
      refine AllReadyH.cons (o := ⟨some 68, _, _, _, _, _⟩) rfl (fun K hK => ?_) AllReadyH.nil
      obtain ⟨hS1, hS2⟩ := hHeld
      go_simp
      (go_at_call 37; (with_reducible refine (cmp25_any _ _ _).mono ?_); rintro e w11 ⟨b11, rfl, HB11_, hsw11⟩; have HB11 := hide HB11_; clear HB11_)
      refine hK.out _ _ (by (try dsimp only); (first | exact ⟨hS1, hS2⟩ | exact ⟨Step.of, (bcell (fut _ _)).1⟩)) (fun hHeld => ?_)
      clear hK K
      (try simp only [Act.put, List.setIfInBounds_toArray, List.set_cons_zero, List.set_cons_succ])
      refine wpAnyH_ready (rs := [19]) (by kernel_rfl) (by simp) ?_
      refine AllReadyH.cons (o := ⟨some 69, _, _, _, _, _⟩) rfl (fun K hK => ?_) AllReadyH.nil
      obtain ⟨hS1, hS2⟩ := hHeld
      go_simp
      (go_at_call 36; (with_reducible refine (TU1.out HB11.out _).mono ?_); rintro e w12 ⟨rfl, hsw12⟩)
      refine hK.out _ _ (by (try dsimp only); (first | exact ⟨hS1, hS2⟩ | exact ⟨Step.of, (bcell (fut _ _)).1⟩)) (fun hHeld => ?_)
      clear hK K
      (try simp only [Act.put, List.setIfInBounds_toArray, List.set_cons_zero, List.set_cons_succ])
      refine wpAnyH_take (i := 20) (oi := ⟨some 70, _, _, _, _, _⟩) (v := ?_) rfl (by kernel_rfl) (by kernel_rfl) (by kernel_rfl) (fun _ _ _ h => h) (Or.inl ⟨by rfl, ?_⟩) (by assumption) ?_
      rotate_left
      · ((intro w hSw); (try dsimp only at hSw); go_simp; (try with_reducible rfl))
      (try simp only [Act.put, List.setIfInBounds_toArray, List.set_cons_zero, List.set_cons_succ])
      refine wpAnyH_take (i := 21) (oi := ⟨some 71, _, _, _, _, _⟩) (v := ?_) rfl (by kernel_rfl) (by kernel_rfl) (by kernel_rfl) (fun _ _ _ h => h) (Or.inl ⟨by rfl, ?_⟩) (by assumption) ?_
      rotate_left
      · ((intro w hSw); (try dsimp only at hSw); go_simp; (try with_reducible rfl))
      (try simp only [Act.put, List.setIfInBounds_toArray, List.set_cons_zero, List.set_cons_succ])
      refine wpAnyH_take (i := 22) (oi := ⟨some 72, _, _, _, _, _⟩) (v := ?_) rfl (by kernel_rfl) (by kernel_rfl) (by kernel_rfl) (fun _ _ _ h => h) (Or.inl ⟨by rfl, ?_⟩) (by assumption) ?_
      rotate_left
      · ((intro w hSw); (try dsimp only at hSw); go_simp; (try with_reducible rfl))
      (try simp only [Act.put, List.setIfInBounds_toArray, List.set_cons_zero, List.set_cons_succ])
      refine wpAnyH_take (i := 23) (oi := ⟨some 73, _, _, _, _, _⟩) (v := ?_) rfl (by kernel_rfl) (by kernel_rfl) (by kernel_rfl) (fun _ _ _ h => h) (Or.inl ⟨by rfl, ?_⟩) (by assumption) ?_
      rotate_left
      · ((intro w hSw); (try dsimp only at hSw); go_simp; (try with_reducible rfl))
      (try simp only [Act.put, List.setIfInBounds_toArray, List.set_cons_zero, List.set_cons_succ])
      refine wpAnyH_take (i := 24) (oi := ⟨some 74, _, _, _, _, _⟩) (v := ?_) rfl (by kernel_rfl) (by kernel_rfl) (by kernel_rfl) (fun _ _ _ h => h) (Or.inl ⟨by rfl, ?_⟩) (by assumption) ?_
      rotate_left
      · ((intro w hSw); (try dsimp only at hSw); go_simp; (try with_reducible rfl))
      (try simp only [Act.put, List.setIfInBounds_toArray, List.set_cons_zero, List.set_cons_succ])
      refine wpAnyH_take (i := 25) (oi := ⟨some 75, _, _, _, _, _⟩) (v := ?_) rfl (by kernel_rfl) (by kernel_rfl) (by kernel_rfl) (fun _ _ _ h => h) (Or.inl ⟨by rfl, ?_⟩) (by assumption) ?_
      rotate_left
      · ((intro w hSw); (try dsimp only at hSw); go_simp; (try with_reducible rfl))
      (try simp only [Act.put, List.setIfInBounds_toArray, List.set_cons_zero, List.set_cons_succ])
      refine wpAnyH_take (i := 26) (oi := ⟨some 76, _, _, _, _, _⟩) (v := ?_) rfl (by kernel_rfl) (by kernel_rfl) (by kernel_rfl) (fun _ _ _ h => h) (Or.inl ⟨by rfl, ?_⟩) (by assumption) ?_
      rotate_left
      · ((intro w hSw); (try dsimp only at hSw); go_simp; (try with_reducible rfl))
      (try simp only [Act.put, List.setIfInBounds_toArray, List.set_cons_zero, List.set_cons_succ])
      refine wpAnyH_take (i := 27) (oi := ⟨some 77, _, _, _, _, _⟩) (v := ?_) rfl (by kernel_rfl) (by kernel_rfl) (by kernel_rfl) (fun _ _ _ h => h) (Or.inl ⟨by rfl, ?_⟩) (by assumption) ?_
      rotate_left
      · ((intro w hSw); (try dsimp only at hSw); go_simp; (try with_reducible rfl))
      (try simp only [Act.put, List.setIfInBounds_toArray, List.set_cons_zero, List.set_cons_succ])
      refine wpAnyH_take (i := 28) (oi := ⟨some 78, _, _, _, _, _⟩) (v := ?_) rfl (by kernel_rfl) (by kernel_rfl) (by kernel_rfl) (fun _ _ _ h => h) (Or.inl ⟨by rfl, ?_⟩) (by assumption) ?_
      rotate_left
      · ((intro w hSw); (try dsimp only at hSw); go_simp; (try with_reducible rfl))
      (try simp only [Act.put, List.setIfInBounds_toArray, List.set_cons_zero, List.set_cons_succ])
      refine wpAnyH_take (i := 29) (oi := ⟨some 79, _, _, _, _, _⟩) (v := ?_) rfl (by kernel_rfl) (by kernel_rfl) (by kernel_rfl) (fun _ _ _ h => h) (Or.inl ⟨by rfl, ?_⟩) (by assumption) ?_
      rotate_left
      · ((intro w hSw); (try dsimp only at hSw); go_simp; (try with_reducible rfl))
      (try simp only [Act.put, List.setIfInBounds_toArray, List.set_cons_zero, List.set_cons_succ])
      refine wpAnyH_take (i := 30) (oi := ⟨some 80, _, _, _, _, _⟩) (v := ?_) rfl (by kernel_rfl) (by kernel_rfl) (by kernel_rfl) (fun _ _ _ h => h) (Or.inl ⟨by rfl, ?_⟩) (by assumption) ?_
      rotate_left
      · ((intro w hSw); (try dsimp only at hSw); go_simp; (try with_reducible rfl))
      (try simp only [Act.put, List.setIfInBounds_toArray, List.set_cons_zero, List.set_cons_succ])
      refine wpAnyH_take (i := 31) (oi := ⟨some 81, _, _, _, _, _⟩) (v := ?_) rfl (by kernel_rfl) (by kernel_rfl) (by kernel_rfl) (fun _ _ _ h => h) (Or.inl ⟨by rfl, ?_⟩) (by assumption) ?_
      rotate_left
      · ((intro w hSw); (try dsimp only at hSw); go_simp; (try with_reducible rfl))
      (try simp only [Act.put, List.setIfInBounds_toArray, List.set_cons_zero, List.set_cons_succ])
      refine wpAnyH_take (i := 32) (oi := ⟨some 6, _, _, _, _, _⟩) (v := ?_) rfl (by kernel_rfl) (by kernel_rfl) (by kernel_rfl) (fun _ _ _ h => h) (Or.inl ⟨by rfl, ?_⟩) (by assumption) ?_
      rotate_left
      · ((intro w hSw); (try dsimp only at hSw); go_simp; (try with_reducible rfl))
      (try simp only [Act.put, List.setIfInBounds_toArray, List.set_cons_zero, List.set_cons_succ])
      refine wpAnyH_done (by kernel_rfl) ?_ _
      go_wp2_with fail
      go_ret
      exact ⟨rfl, Step.of⟩
    · go_simp
      first | (have HZ9 := hide (Blk.new w8 [.int .i64 0, .slice none 0 0, .int .i64 0, .int .i64 0, .slice none 0 0, .slice none 0 0] 30)) | (have HZ9 := hide (Blk.new w7 [.int .i64 0, .slice none 0 0, .int .i64 0, .int .i64 0, .slice none 0 0, .slice none 0 0] 30)) | (have HZ9 := hide (Blk.new X6 [.int .i64 0, .slice none 0 0, .int .i64 0, .int .i64 0, .slice none 0 0, .slice none 0 0] 30))
      obtain ⟨z0, z1, z2, z3, z4, z5⟩ := At.z6 HZ9.out.at0
      have lz := HZ9.out.lt
      have fz := HZ9.out.free
      refine hK.out _ _ (by (try dsimp only); (first | exact ⟨hS1, hS2⟩ | exact ⟨Step.of, (bcell (fut _ _)).1⟩)) (fun hHeld => ?_)
      clear hK K
      refine wpAnyH_ready (rs := [5]) (by kernel_rfl) (by simp) ?_
      refine AllReadyH.cons (o := ⟨some 41, _, _, _, _, _⟩) rfl (fun K hK => ?_) AllReadyH.nil
      obtain ⟨hS1, hS2⟩ := hHeld
      go_simp
      (go_at_call 13; (with_reducible refine (AP1.out HB7.out _).mono ?_); rintro e w8 ⟨tB, rfl, ht2, ho2, hs8⟩; have HT2 := hide ht2; have HO2 := hide ho2; clear ht2 ho2; try (clear z0 z1 z2 z3 z4 z5 lz fz; obtain ⟨z0, z1, z2, z3, z4, z5⟩ := At.z6 (HZ9.out.fut (w' := w8)).at0; have lz := (HZ9.out.fut (w' := w8)).lt; have fz := (HZ9.out.fut (w' := w8)).free))
      refine hK.out _ _ (by (try dsimp only); (first | exact ⟨hS1, hS2⟩ | exact ⟨Step.of, (bcell (fut _ _)).1⟩)) (fun hHeld => ?_)
      clear hK K
      refine wpAnyH_take (i := 6) (oi := ⟨some 35, _, _, _, _, _⟩) (v := ?_) rfl (by kernel_rfl) (by kernel_rfl) (by kernel_rfl) (fun _ _ _ h => h) (Or.inl ⟨by rfl, ?_⟩) (by assumption) ?_
      rotate_left
      · ((intro w hSw); (try dsimp only at hSw); go_simp; (try with_reducible rfl))
      (try simp only [Act.put, List.setIfInBounds_toArray, List.set_cons_zero, List.set_cons_succ])
      refine wpAnyH_take (i := 7) (oi := ⟨some 42, _, _, _, _, _⟩) (v := ?_) rfl (by kernel_rfl) (by kernel_rfl) (by kernel_rfl) (fun _ _ _ h => h) (Or.inl ⟨by rfl, ?_⟩) (by assumption) ?_
      rotate_left
      · ((intro w hSw); (try dsimp only at hSw); go_simp; (try with_reducible rfl))
      (try simp only [Act.put, List.setIfInBounds_toArray, List.set_cons_zero, List.set_cons_succ])
      refine wpAnyH_take (i := 8) (oi := ⟨some 43, _, _, _, _, _⟩) (v := ?_) rfl (by kernel_rfl) (by kernel_rfl) (by kernel_rfl) (fun _ _ _ h => h) (Or.inl ⟨by rfl, ?_⟩) (by assumption) ?_
      rotate_left
      · ((intro w hSw); (try dsimp only at hSw); go_simp; (try with_reducible rfl))
      (try simp only [Act.put, List.setIfInBounds_toArray, List.set_cons_zero, List.set_cons_succ])
      refine wpAnyH_ready (rs := [10]) (by kernel_rfl) (by simp) ?_
      refine AllReadyH.cons (o := ⟨none, _, _, _, _, _⟩) rfl (fun K hK => ?_) AllReadyH.nil
      go_simp
      refine hK.out _ _ (by (try dsimp only); (constructor; exact Step.of; intro b o h; exact (fut X6 _).cell (p := ⟨b, o, none⟩) h)) (fun hHeld => ?_)
      clear hK K
      (try simp only [Act.put, List.setIfInBounds_toArray, List.set_cons_zero, List.set_cons_succ])
      refine wpAnyH_take (i := 11) (oi := ⟨some 13, _, _, _, _, _⟩) (v := ?_) rfl (by kernel_rfl) (by kernel_rfl) (by kernel_rfl) (fun _ _ _ h => h) (Or.inl ⟨by rfl, ?_⟩) (by assumption) ?_
      rotate_left
      · ((intro w hSw); (try dsimp only at hSw); go_simp; (try with_reducible rfl))
      (try simp only [Act.put, List.setIfInBounds_toArray, List.set_cons_zero, List.set_cons_succ])
      refine wpAnyH_done (by kernel_rfl) ?_ _
      go_upto_region 8 with fail
      obtain ⟨X8, hX8⟩ : ∃ x : World, x = set6D w8 w7.heap.size (.int .i64 tB.s.id) (.slice tB.As tB.s.cols.length tB.cs) (.int .i64 tB.s.next) (.int .i64 tB.sid) (.slice tB.Af tB.fs.length tB.cf) (.slice tB.Ar tB.rs.length tB.cr) := ⟨_, rfl⟩
      have HTB2 := hide (show Blk X8 w7.heap.size 30 [.int .i64 tB.s.id, .slice tB.As tB.s.cols.length tB.cs, .int .i64 tB.s.next, .int .i64 tB.sid, .slice tB.Af tB.fs.length tB.cf, .slice tB.Ar tB.rs.length tB.cr] by rw [hX8]; exact set6D_blk (HZ9.out.fut (w' := w8)) (.int .i64 tB.s.id) (.slice tB.As tB.s.cols.length tB.cs) (.int .i64 tB.s.next) (.int .i64 tB.sid) (.slice tB.Af tB.fs.length tB.cf) (.slice tB.Ar tB.rs.length tB.cr))
      have HO8 := hide (show TbOwnR X8 _ tB by rw [hX8]; exact HO2.out.set6 (HZ9.out.fut (w' := w8)) (.int .i64 tB.s.id) (.slice tB.As tB.s.cols.length tB.cs) (.int .i64 tB.s.next) (.int .i64 tB.sid) (.slice tB.Af tB.fs.length tB.cf) (.slice tB.Ar tB.rs.length tB.cr))
      have SX8 : Step X6 X8 := by rw [hX8]; exact ⟨set6D_below (fut X6 w8) (fut X6 w7).size (.int .i64 tB.s.id) (.slice tB.As tB.s.cols.length tB.cs) (.int .i64 tB.s.next) (.int .i64 tB.sid) (.slice tB.Af tB.fs.length tB.cf) (.slice tB.Ar tB.rs.length tB.cr)⟩
      unfold set6D at hX8
      rw [← hX8]
      clear hX8 z0 z1 z2 z3 z4 z5 lz fz
      clear t0 t1 t2 t3 t4 t5 lt
      have HFL : Hid ((ys.filter fun x => !yesN [cmpN k v] x).length ≤ 20) := by show _ ≤ _; have := List.length_filter_le (fun x => !yesN [cmpN k v] x) ys; have := HYL.out; omega
      have HFR : Hid (∀ x ∈ ys.filter fun x => !yesN [cmpN k v] x, -9223372036854775808 ≤ x ∧ x ≤ 9223372036854775807) := fun x hx => HYR.out x (List.mem_filter.1 hx).1
      have HTI2 : Hid (TbIn X8 tB) := tb_in HO8.out (by rw [HT2.out]; exact tab2_may HFL.out)
      have TU0 : Hid (∀ (w' : World) [Fut X8 w'], Calls Tryz.prog 36 #[.agg #[.int .i64 tB.s.id, .slice tB.As tB.s.cols.length tB.cs, .int .i64 tB.s.next, .int .i64 tB.sid, .slice tB.Af tB.fs.length tB.cf, .slice tB.Ar tB.rs.length tB.cr], .agg #[.slice none 0 0]] w' fun e w'' => e = .returned (.int .i64 (q : Int)) ∧ Step w' w'') := fun w' _ => by
        have := total2 (w0 := X8) (w1 := X8) (ns := []) w' HT2.out HTI2.out (PrIn.none_ X8) HFR.out HFL.out none_pred none_check
        rw [none_filter, HQ.out] at this
        exact this
      have TU1 : Hid (∀ {wa : World} {b : Nat}, Blk wa b 77 [.int .i64 1, .string ⟨#[97]⟩, .int .i64 k, .int .i64 1, .int .i64 v, .bool false, .string ⟨#[]⟩, .int .i64 0, .int .i64 0] → ∀ (w' : World) [Fut X8 w'] [Fut wa w'], Calls Tryz.prog 36 #[.agg #[.int .i64 tB.s.id, .slice tB.As tB.s.cols.length tB.cs, .int .i64 tB.s.next, .int .i64 tB.sid, .slice tB.Af tB.fs.length tB.cf, .slice tB.Ar tB.rs.length tB.cr], .agg #[.slice (some ⟨b, 0, none⟩) 1 1]] w' fun e w'' => e = .returned (.int .i64 0) ∧ Step w' w'') := by
        intro wa b hb w' _ _
        have := total2 (w0 := X8) (w1 := wa) (ns := [cmpN k v]) w' HT2.out HTI2.out (pr_cmp hb) HFR.out HFL.out (cmp_pred HK0.out HK5.out) (cmp_check HK0.out HK5.out)
        rw [filt_none] at this
        exact this
      obtain ⟨t0, t1, t2, t3, t4, t5⟩ := At.z6 (HTB.out.fut (w' := X8)).at0
      have lt := (HTB.out.fut (w' := X8)).lt
      go_upto_region 9 with (go_at_call 13; (with_reducible refine (AP2.out _).mono ?_); rintro e w9 ⟨tC, rfl, ht3, ho3, hs9⟩; have HT3 := hide ht3; clear ht3 ho3)
      obtain ⟨X9, hX9⟩ : ∃ x : World, x = w9.alloc (.cells #[.int .i64 tC.s.id, .slice tC.As tC.s.cols.length tC.cs, .int .i64 tC.s.next, .int .i64 tC.sid, .slice tC.Af tC.fs.length tC.cf, .slice tC.Ar tC.rs.length tC.cr] 30) := ⟨_, rfl⟩
      have SX9 : Step w9 X9 := by rw [hX9]; exact Step.of
      have HTB3 : Hid (Blk X9 w9.heap.size 30 [.int .i64 tC.s.id, .slice tC.As tC.s.cols.length tC.cs, .int .i64 tC.s.next, .int .i64 tC.sid, .slice tC.Af tC.fs.length tC.cf, .slice tC.Ar tC.rs.length tC.cr]) := by rw [hX9]; exact Blk.new w9 _ 30
      rw [← hX9]
      clear hX9 t0 t1 t2 t3 t4 t5 lt
      have HZL : Hid (tC.rs.length = 0) := by
        show _ = _
        have := congrArg (fun q => q.rows.length) HT3.out
        simpa [TbA.tb, tab2] using this
      have hzl : (tC.rs.length : Int) = 0 := by rw [HZL.out]; rfl
      obtain ⟨t0, t1, t2, t3, t4, t5⟩ := At.z6 (HTB2.out.fut (w' := X9)).at0
      have lt := (HTB2.out.fut (w' := X9)).lt
      obtain ⟨p0, p1, p2, p3, p4, p5⟩ := At.z6 (HTB3.out.fut (w' := X9)).at0
      have lp := (HTB3.out.fut (w' := X9)).lt
      have hqe := HQE.out.1
      have hqw := HQE.out.2.1
      have hqe2 : ((q : Int) == wrap64 ((ys.length : Int) - (m : Int))) = true := by rw [hqw]; exact hqe
      have hqw3 : IntKind.i64.wrap ((ys.length : Int) - (m : Int)) = (ys.length : Int) - (m : Int) := HQE.out.2.2
      have hqe3 : ((q : Int) == IntKind.i64.wrap ((ys.length : Int) - (m : Int))) = true := by rw [hqw3]; exact hqe
      refine wp_region_held_drew (S := (fun w' => Step X9 w' ∧ (∀ b o, b < X9.heap.size → w'.cell? ⟨b, o, none⟩ = X9.cell? ⟨b, o, none⟩))) (by kernel_rfl) (by (try dsimp only); (first | exact ⟨hS1, hS2⟩ | exact ⟨Step.of, (bcell (fut _ _)).1⟩)) (fun hHeld => ?_)
      refine wpAnyH_take (i := 0) (oi := ⟨some 50, _, _, _, _, _⟩) (v := ?_) rfl (by kernel_rfl) (by kernel_rfl) (by kernel_rfl) (fun _ _ _ h => h) (Or.inl ⟨by rfl, ?_⟩) (by assumption) ?_
      rotate_left
      · ((intro w hSw); (try dsimp only at hSw); go_simp; (try with_reducible rfl))
      (try simp only [Act.put, List.setIfInBounds_toArray, List.set_cons_zero, List.set_cons_succ])
      refine wpAnyH_take (i := 1) (oi := ⟨some 51, _, _, _, _, _⟩) (v := ?_) rfl (by kernel_rfl) (by kernel_rfl) (by kernel_rfl) (fun _ _ _ h => h) (Or.inl ⟨by rfl, ?_⟩) (by assumption) ?_
      rotate_left
      · ((intro w hSw); (try dsimp only at hSw); go_simp; (try with_reducible rfl))
      (try simp only [Act.put, List.setIfInBounds_toArray, List.set_cons_zero, List.set_cons_succ])
      refine wpAnyH_take (i := 2) (oi := ⟨some 52, _, _, _, _, _⟩) (v := ?_) rfl (by kernel_rfl) (by kernel_rfl) (by kernel_rfl) (fun _ _ _ h => h) (Or.inl ⟨by rfl, ?_⟩) (by assumption) ?_
      rotate_left
      · ((intro w hSw); (try dsimp only at hSw); go_simp; (try with_reducible rfl))
      (try simp only [Act.put, List.setIfInBounds_toArray, List.set_cons_zero, List.set_cons_succ])
      refine wpAnyH_take (i := 3) (oi := ⟨some 53, _, _, _, _, _⟩) (v := ?_) rfl (by kernel_rfl) (by kernel_rfl) (by kernel_rfl) (fun _ _ _ h => h) (Or.inl ⟨by rfl, ?_⟩) (by assumption) ?_
      rotate_left
      · ((intro w hSw); (try dsimp only at hSw); go_simp; (try with_reducible rfl))
      (try simp only [Act.put, List.setIfInBounds_toArray, List.set_cons_zero, List.set_cons_succ])
      refine wpAnyH_take (i := 4) (oi := ⟨some 54, _, _, _, _, _⟩) (v := ?_) rfl (by kernel_rfl) (by kernel_rfl) (by kernel_rfl) (fun _ _ _ h => h) (Or.inl ⟨by rfl, ?_⟩) (by assumption) ?_
      rotate_left
      · ((intro w hSw); (try dsimp only at hSw); go_simp; (try with_reducible rfl))
      (try simp only [Act.put, List.setIfInBounds_toArray, List.set_cons_zero, List.set_cons_succ])
      refine wpAnyH_take (i := 5) (oi := ⟨some 55, _, _, _, _, _⟩) (v := ?_) rfl (by kernel_rfl) (by kernel_rfl) (by kernel_rfl) (fun _ _ _ h => h) (Or.inl ⟨by rfl, ?_⟩) (by assumption) ?_
      rotate_left
      · ((intro w hSw); (try dsimp only at hSw); go_simp; (try with_reducible rfl))
      (try simp only [Act.put, List.setIfInBounds_toArray, List.set_cons_zero, List.set_cons_succ])
      refine wpAnyH_take (i := 6) (oi := ⟨some 56, _, _, _, _, _⟩) (v := ?_) rfl (by kernel_rfl) (by kernel_rfl) (by kernel_rfl) (fun _ _ _ h => h) (Or.inl ⟨by rfl, ?_⟩) (by assumption) ?_
      rotate_left
      · ((intro w hSw); (try dsimp only at hSw); go_simp; (try with_reducible rfl))
      (try simp only [Act.put, List.setIfInBounds_toArray, List.set_cons_zero, List.set_cons_succ])
      refine wpAnyH_take (i := 7) (oi := ⟨some 57, _, _, _, _, _⟩) (v := ?_) rfl (by kernel_rfl) (by kernel_rfl) (by kernel_rfl) (fun _ _ _ h => h) (Or.inl ⟨by rfl, ?_⟩) (by assumption) ?_
      rotate_left
      · ((intro w hSw); (try dsimp only at hSw); go_simp; (try with_reducible rfl))
      (try simp only [Act.put, List.setIfInBounds_toArray, List.set_cons_zero, List.set_cons_succ])
      refine wpAnyH_take (i := 9) (oi := ⟨some 59, _, _, _, _, _⟩) (v := ?_) rfl (by kernel_rfl) (by kernel_rfl) (by kernel_rfl) (fun _ _ _ h => h) (Or.inl ⟨by rfl, ?_⟩) (by assumption) ?_
      rotate_left
      · ((intro w hSw); (try dsimp only at hSw); go_simp; (try with_reducible rfl))
      (try simp only [Act.put, List.setIfInBounds_toArray, List.set_cons_zero, List.set_cons_succ])
      refine wpAnyH_take (i := 10) (oi := ⟨some 60, _, _, _, _, _⟩) (v := ?_) rfl (by kernel_rfl) (by kernel_rfl) (by kernel_rfl) (fun _ _ _ h => h) (Or.inl ⟨by rfl, ?_⟩) (by assumption) ?_
      rotate_left
      · ((intro w hSw); (try dsimp only at hSw); go_simp; (try with_reducible rfl))
      (try simp only [Act.put, List.setIfInBounds_toArray, List.set_cons_zero, List.set_cons_succ])
      refine wpAnyH_take (i := 11) (oi := ⟨some 61, _, _, _, _, _⟩) (v := ?_) rfl (by kernel_rfl) (by kernel_rfl) (by kernel_rfl) (fun _ _ _ h => h) (Or.inl ⟨by rfl, ?_⟩) (by assumption) ?_
      rotate_left
      · ((intro w hSw); (try dsimp only at hSw); go_simp; (try with_reducible rfl))
      (try simp only [Act.put, List.setIfInBounds_toArray, List.set_cons_zero, List.set_cons_succ])
      refine wpAnyH_ready (rs := [8]) (by kernel_rfl) (by simp) ?_
      refine AllReadyH.cons (o := ⟨some 58, _, _, _, _, _⟩) rfl (fun K hK => ?_) AllReadyH.nil
      obtain ⟨hS1, hS2⟩ := hHeld
      go_simp
      (go_at_call 36; (with_reducible refine (TU0.out _).mono ?_); rintro e w10 ⟨rfl, hs10⟩)
      refine hK.out _ _ (by (try dsimp only); (first | exact ⟨hS1, hS2⟩ | exact ⟨Step.of, (bcell (fut _ _)).1⟩)) (fun hHeld => ?_)
      clear hK K
      (try simp only [Act.put, List.setIfInBounds_toArray, List.set_cons_zero, List.set_cons_succ])
      refine wpAnyH_take (i := 12) (oi := ⟨some 62, _, _, _, _, _⟩) (v := ?_) rfl (by kernel_rfl) (by kernel_rfl) (by kernel_rfl) (fun _ _ _ h => h) (Or.inl ⟨by rfl, ?_⟩) (by assumption) ?_
      rotate_left
      · ((intro w hSw); (try dsimp only at hSw); go_simp; (try with_reducible rfl))
      (try simp only [Act.put, List.setIfInBounds_toArray, List.set_cons_zero, List.set_cons_succ])
      refine wpAnyH_take (i := 13) (oi := ⟨some 63, _, _, _, _, _⟩) (v := ?_) rfl (by kernel_rfl) (by kernel_rfl) (by kernel_rfl) (fun _ _ _ h => h) (Or.inl ⟨by rfl, ?_⟩) (by assumption) ?_
      rotate_left
      · ((intro w hSw); (try dsimp only at hSw); go_simp; (try with_reducible rfl))
      (try simp only [Act.put, List.setIfInBounds_toArray, List.set_cons_zero, List.set_cons_succ])
      refine wpAnyH_take (i := 14) (oi := ⟨some 64, _, _, _, _, _⟩) (v := ?_) rfl (by kernel_rfl) (by kernel_rfl) (by kernel_rfl) (fun _ _ _ h => h) (Or.inl ⟨by rfl, ?_⟩) (by assumption) ?_
      rotate_left
      · ((intro w hSw); (try dsimp only at hSw); go_simp; (try with_reducible rfl))
      (try simp only [Act.put, List.setIfInBounds_toArray, List.set_cons_zero, List.set_cons_succ])
      refine wpAnyH_take (i := 15) (oi := ⟨some 65, _, _, _, _, _⟩) (v := ?_) rfl (by kernel_rfl) (by kernel_rfl) (by kernel_rfl) (fun _ _ _ h => h) (Or.inl ⟨by rfl, ?_⟩) (by assumption) ?_
      rotate_left
      · ((intro w hSw); (try dsimp only at hSw); go_simp; (try with_reducible rfl))
      (try simp only [Act.put, List.setIfInBounds_toArray, List.set_cons_zero, List.set_cons_succ])
      refine wpAnyH_take (i := 16) (oi := ⟨some 66, _, _, _, _, _⟩) (v := ?_) rfl (by kernel_rfl) (by kernel_rfl) (by kernel_rfl) (fun _ _ _ h => h) (Or.inl ⟨by rfl, ?_⟩) (by assumption) ?_
      rotate_left
      · ((intro w hSw); (try dsimp only at hSw); go_simp; (try with_reducible rfl))
      (try simp only [Act.put, List.setIfInBounds_toArray, List.set_cons_zero, List.set_cons_succ])
      refine wpAnyH_take (i := 17) (oi := ⟨some 67, _, _, _, _, _⟩) (v := ?_) rfl (by kernel_rfl) (by kernel_rfl) (by kernel_rfl) (fun _ _ _ h => h) (Or.inl ⟨by rfl, ?_⟩) (by assumption) ?_
      rotate_left
      · ((intro w hSw); (try dsimp only at hSw); go_simp; (try with_reducible rfl))
      (try simp only [Act.put, List.setIfInBounds_toArray, List.set_cons_zero, List.set_cons_succ])
      refine wpAnyH_ready (rs := [18]) (by kernel_rfl) (by simp) ?_
      refine AllReadyH.cons (o := ⟨some 68, _, _, _, _, _⟩) rfl (fun K hK => ?_) AllReadyH.nil
      obtain ⟨hS1, hS2⟩ := hHeld
      go_simp
      (go_at_call 37; (with_reducible refine (cmp25_any _ _ _).mono ?_); rintro e w11 ⟨b11, rfl, HB11_, hsw11⟩; have HB11 := hide HB11_; clear HB11_)
      refine hK.out _ _ (by (try dsimp only); (first | exact ⟨hS1, hS2⟩ | exact ⟨Step.of, (bcell (fut _ _)).1⟩)) (fun hHeld => ?_)
      clear hK K
      (try simp only [Act.put, List.setIfInBounds_toArray, List.set_cons_zero, List.set_cons_succ])
      refine wpAnyH_ready (rs := [19]) (by kernel_rfl) (by simp) ?_
      refine AllReadyH.cons (o := ⟨some 69, _, _, _, _, _⟩) rfl (fun K hK => ?_) AllReadyH.nil
      obtain ⟨hS1, hS2⟩ := hHeld
      go_simp
      (go_at_call 36; (with_reducible refine (TU1.out HB11.out _).mono ?_); rintro e w12 ⟨rfl, hsw12⟩)
      refine hK.out _ _ (by (try dsimp only); (first | exact ⟨hS1, hS2⟩ | exact ⟨Step.of, (bcell (fut _ _)).1⟩)) (fun hHeld => ?_)
      clear hK K
      (try simp only [Act.put, List.setIfInBounds_toArray, List.set_cons_zero, List.set_cons_succ])
      refine wpAnyH_take (i := 20) (oi := ⟨some 70, _, _, _, _, _⟩) (v := ?_) rfl (by kernel_rfl) (by kernel_rfl) (by kernel_rfl) (fun _ _ _ h => h) (Or.inl ⟨by rfl, ?_⟩) (by assumption) ?_
      rotate_left
      · ((intro w hSw); (try dsimp only at hSw); go_simp; (try with_reducible rfl))
      (try simp only [Act.put, List.setIfInBounds_toArray, List.set_cons_zero, List.set_cons_succ])
      refine wpAnyH_take (i := 21) (oi := ⟨some 71, _, _, _, _, _⟩) (v := ?_) rfl (by kernel_rfl) (by kernel_rfl) (by kernel_rfl) (fun _ _ _ h => h) (Or.inl ⟨by rfl, ?_⟩) (by assumption) ?_
      rotate_left
      · ((intro w hSw); (try dsimp only at hSw); go_simp; (try with_reducible rfl))
      (try simp only [Act.put, List.setIfInBounds_toArray, List.set_cons_zero, List.set_cons_succ])
      refine wpAnyH_take (i := 22) (oi := ⟨some 72, _, _, _, _, _⟩) (v := ?_) rfl (by kernel_rfl) (by kernel_rfl) (by kernel_rfl) (fun _ _ _ h => h) (Or.inl ⟨by rfl, ?_⟩) (by assumption) ?_
      rotate_left
      · ((intro w hSw); (try dsimp only at hSw); go_simp; (try with_reducible rfl))
      (try simp only [Act.put, List.setIfInBounds_toArray, List.set_cons_zero, List.set_cons_succ])
      refine wpAnyH_take (i := 23) (oi := ⟨some 73, _, _, _, _, _⟩) (v := ?_) rfl (by kernel_rfl) (by kernel_rfl) (by kernel_rfl) (fun _ _ _ h => h) (Or.inl ⟨by rfl, ?_⟩) (by assumption) ?_
      rotate_left
      · ((intro w hSw); (try dsimp only at hSw); go_simp; (try with_reducible rfl))
      (try simp only [Act.put, List.setIfInBounds_toArray, List.set_cons_zero, List.set_cons_succ])
      refine wpAnyH_take (i := 24) (oi := ⟨some 74, _, _, _, _, _⟩) (v := ?_) rfl (by kernel_rfl) (by kernel_rfl) (by kernel_rfl) (fun _ _ _ h => h) (Or.inl ⟨by rfl, ?_⟩) (by assumption) ?_
      rotate_left
      · ((intro w hSw); (try dsimp only at hSw); go_simp; (try with_reducible rfl))
      (try simp only [Act.put, List.setIfInBounds_toArray, List.set_cons_zero, List.set_cons_succ])
      refine wpAnyH_take (i := 25) (oi := ⟨some 75, _, _, _, _, _⟩) (v := ?_) rfl (by kernel_rfl) (by kernel_rfl) (by kernel_rfl) (fun _ _ _ h => h) (Or.inl ⟨by rfl, ?_⟩) (by assumption) ?_
      rotate_left
      · ((intro w hSw); (try dsimp only at hSw); go_simp; (try with_reducible rfl))
      (try simp only [Act.put, List.setIfInBounds_toArray, List.set_cons_zero, List.set_cons_succ])
      refine wpAnyH_take (i := 26) (oi := ⟨some 76, _, _, _, _, _⟩) (v := ?_) rfl (by kernel_rfl) (by kernel_rfl) (by kernel_rfl) (fun _ _ _ h => h) (Or.inl ⟨by rfl, ?_⟩) (by assumption) ?_
      rotate_left
      · ((intro w hSw); (try dsimp only at hSw); go_simp; (try with_reducible rfl))
      (try simp only [Act.put, List.setIfInBounds_toArray, List.set_cons_zero, List.set_cons_succ])
      refine wpAnyH_take (i := 27) (oi := ⟨some 77, _, _, _, _, _⟩) (v := ?_) rfl (by kernel_rfl) (by kernel_rfl) (by kernel_rfl) (fun _ _ _ h => h) (Or.inl ⟨by rfl, ?_⟩) (by assumption) ?_
      rotate_left
      · ((intro w hSw); (try dsimp only at hSw); go_simp; (try with_reducible rfl))
      (try simp only [Act.put, List.setIfInBounds_toArray, List.set_cons_zero, List.set_cons_succ])
      refine wpAnyH_take (i := 28) (oi := ⟨some 78, _, _, _, _, _⟩) (v := ?_) rfl (by kernel_rfl) (by kernel_rfl) (by kernel_rfl) (fun _ _ _ h => h) (Or.inl ⟨by rfl, ?_⟩) (by assumption) ?_
      rotate_left
      · ((intro w hSw); (try dsimp only at hSw); go_simp; (try with_reducible rfl))
      (try simp only [Act.put, List.setIfInBounds_toArray, List.set_cons_zero, List.set_cons_succ])
      refine wpAnyH_take (i := 29) (oi := ⟨some 79, _, _, _, _, _⟩) (v := ?_) rfl (by kernel_rfl) (by kernel_rfl) (by kernel_rfl) (fun _ _ _ h => h) (Or.inl ⟨by rfl, ?_⟩) (by assumption) ?_
      rotate_left
      · ((intro w hSw); (try dsimp only at hSw); go_simp; (try with_reducible rfl))
      (try simp only [Act.put, List.setIfInBounds_toArray, List.set_cons_zero, List.set_cons_succ])
      refine wpAnyH_take (i := 30) (oi := ⟨some 80, _, _, _, _, _⟩) (v := ?_) rfl (by kernel_rfl) (by kernel_rfl) (by kernel_rfl) (fun _ _ _ h => h) (Or.inl ⟨by rfl, ?_⟩) (by assumption) ?_
      rotate_left
      · ((intro w hSw); (try dsimp only at hSw); go_simp; (try with_reducible rfl))
      (try simp only [Act.put, List.setIfInBounds_toArray, List.set_cons_zero, List.set_cons_succ])
      refine wpAnyH_take (i := 31) (oi := ⟨some 81, _, _, _, _, _⟩) (v := ?_) rfl (by kernel_rfl) (by kernel_rfl) (by kernel_rfl) (fun _ _ _ h => h) (Or.inl ⟨by rfl, ?_⟩) (by assumption) ?_
      rotate_left
      · ((intro w hSw); (try dsimp only at hSw); go_simp; (try with_reducible rfl))
      (try simp only [Act.put, List.setIfInBounds_toArray, List.set_cons_zero, List.set_cons_succ])
      refine wpAnyH_take (i := 32) (oi := ⟨some 6, _, _, _, _, _⟩) (v := ?_) rfl (by kernel_rfl) (by kernel_rfl) (by kernel_rfl) (fun _ _ _ h => h) (Or.inl ⟨by rfl, ?_⟩) (by assumption) ?_
      rotate_left
      · ((intro w hSw); (try dsimp only at hSw); go_simp; (try with_reducible rfl))
      (try simp only [Act.put, List.setIfInBounds_toArray, List.set_cons_zero, List.set_cons_succ])
      refine wpAnyH_done (by kernel_rfl) ?_ _
      go_wp2_with fail
      go_ret
      exact ⟨rfl, Step.of⟩
  · go_simp
    first | (have HZ9 := hide (Blk.new w8 [.int .i64 0, .slice none 0 0, .int .i64 0, .int .i64 0, .slice none 0 0, .slice none 0 0] 30)) | (have HZ9 := hide (Blk.new w7 [.int .i64 0, .slice none 0 0, .int .i64 0, .int .i64 0, .slice none 0 0, .slice none 0 0] 30)) | (have HZ9 := hide (Blk.new X6 [.int .i64 0, .slice none 0 0, .int .i64 0, .int .i64 0, .slice none 0 0, .slice none 0 0] 30))
    obtain ⟨z0, z1, z2, z3, z4, z5⟩ := At.z6 HZ9.out.at0
    have lz := HZ9.out.lt
    have fz := HZ9.out.free
    refine hK.out _ _ (by (try dsimp only); (first | exact ⟨hS1, hS2⟩ | exact ⟨Step.of, (bcell (fut _ _)).1⟩)) (fun hHeld => ?_)
    clear hK K
    refine wpAnyH_ready (rs := [3]) (by kernel_rfl) (by simp) ?_
    refine AllReadyH.cons (o := ⟨some 39, _, _, _, _, _⟩) rfl (fun K hK => ?_) AllReadyH.nil
    obtain ⟨hS1, hS2⟩ := hHeld
    go_simp
    (go_at_call 37; (with_reducible refine (cmp25_any _ _ _).mono ?_); rintro e w7 ⟨b7, rfl, HB7_, hsw7⟩; have HB7 := hide HB7_; clear HB7_; try (clear z0 z1 z2 z3 z4 z5 lz fz; obtain ⟨z0, z1, z2, z3, z4, z5⟩ := At.z6 (HZ9.out.fut (w' := w7)).at0; have lz := (HZ9.out.fut (w' := w7)).lt; have fz := (HZ9.out.fut (w' := w7)).free))
    refine hK.out _ _ (by (try dsimp only); (first | exact ⟨hS1, hS2⟩ | exact ⟨Step.of, (bcell (fut _ _)).1⟩)) (fun hHeld => ?_)
    clear hK K
    (try simp only [Act.put, List.setIfInBounds_toArray, List.set_cons_zero, List.set_cons_succ])
    refine wpAnyH_take (i := 4) (oi := ⟨some 40, _, _, _, _, _⟩) (v := ?_) rfl (by kernel_rfl) (by kernel_rfl) (by kernel_rfl) (fun _ _ _ h => h) (Or.inl ⟨by rfl, ?_⟩) (by assumption) ?_
    rotate_left
    · ((intro w hSw); (try dsimp only at hSw); go_simp; (try with_reducible rfl))
    (try simp only [Act.put, List.setIfInBounds_toArray, List.set_cons_zero, List.set_cons_succ])
    refine wpAnyH_ready (rs := [5]) (by kernel_rfl) (by simp) ?_
    refine AllReadyH.cons (o := ⟨some 41, _, _, _, _, _⟩) rfl (fun K hK => ?_) AllReadyH.nil
    obtain ⟨hS1, hS2⟩ := hHeld
    go_simp
    (go_at_call 13; (with_reducible refine (AP1.out HB7.out _).mono ?_); rintro e w8 ⟨tB, rfl, ht2, ho2, hs8⟩; have HT2 := hide ht2; have HO2 := hide ho2; clear ht2 ho2; try (clear z0 z1 z2 z3 z4 z5 lz fz; obtain ⟨z0, z1, z2, z3, z4, z5⟩ := At.z6 (HZ9.out.fut (w' := w8)).at0; have lz := (HZ9.out.fut (w' := w8)).lt; have fz := (HZ9.out.fut (w' := w8)).free))
    refine hK.out _ _ (by (try dsimp only); (first | exact ⟨hS1, hS2⟩ | exact ⟨Step.of, (bcell (fut _ _)).1⟩)) (fun hHeld => ?_)
    clear hK K
    refine wpAnyH_take (i := 6) (oi := ⟨some 35, _, _, _, _, _⟩) (v := ?_) rfl (by kernel_rfl) (by kernel_rfl) (by kernel_rfl) (fun _ _ _ h => h) (Or.inl ⟨by rfl, ?_⟩) (by assumption) ?_
    rotate_left
    · ((intro w hSw); (try dsimp only at hSw); go_simp; (try with_reducible rfl))
    (try simp only [Act.put, List.setIfInBounds_toArray, List.set_cons_zero, List.set_cons_succ])
    refine wpAnyH_take (i := 7) (oi := ⟨some 42, _, _, _, _, _⟩) (v := ?_) rfl (by kernel_rfl) (by kernel_rfl) (by kernel_rfl) (fun _ _ _ h => h) (Or.inl ⟨by rfl, ?_⟩) (by assumption) ?_
    rotate_left
    · ((intro w hSw); (try dsimp only at hSw); go_simp; (try with_reducible rfl))
    (try simp only [Act.put, List.setIfInBounds_toArray, List.set_cons_zero, List.set_cons_succ])
    refine wpAnyH_take (i := 8) (oi := ⟨some 43, _, _, _, _, _⟩) (v := ?_) rfl (by kernel_rfl) (by kernel_rfl) (by kernel_rfl) (fun _ _ _ h => h) (Or.inl ⟨by rfl, ?_⟩) (by assumption) ?_
    rotate_left
    · ((intro w hSw); (try dsimp only at hSw); go_simp; (try with_reducible rfl))
    (try simp only [Act.put, List.setIfInBounds_toArray, List.set_cons_zero, List.set_cons_succ])
    refine wpAnyH_ready (rs := [10]) (by kernel_rfl) (by simp) ?_
    refine AllReadyH.cons (o := ⟨none, _, _, _, _, _⟩) rfl (fun K hK => ?_) AllReadyH.nil
    go_simp
    refine hK.out _ _ (by (try dsimp only); (constructor; exact Step.of; intro b o h; exact (fut X6 _).cell (p := ⟨b, o, none⟩) h)) (fun hHeld => ?_)
    clear hK K
    (try simp only [Act.put, List.setIfInBounds_toArray, List.set_cons_zero, List.set_cons_succ])
    refine wpAnyH_take (i := 11) (oi := ⟨some 13, _, _, _, _, _⟩) (v := ?_) rfl (by kernel_rfl) (by kernel_rfl) (by kernel_rfl) (fun _ _ _ h => h) (Or.inl ⟨by rfl, ?_⟩) (by assumption) ?_
    rotate_left
    · ((intro w hSw); (try dsimp only at hSw); go_simp; (try with_reducible rfl))
    (try simp only [Act.put, List.setIfInBounds_toArray, List.set_cons_zero, List.set_cons_succ])
    refine wpAnyH_done (by kernel_rfl) ?_ _
    go_upto_region 8 with fail
    obtain ⟨X8, hX8⟩ : ∃ x : World, x = set6D w8 X6.heap.size (.int .i64 tB.s.id) (.slice tB.As tB.s.cols.length tB.cs) (.int .i64 tB.s.next) (.int .i64 tB.sid) (.slice tB.Af tB.fs.length tB.cf) (.slice tB.Ar tB.rs.length tB.cr) := ⟨_, rfl⟩
    have HTB2 := hide (show Blk X8 X6.heap.size 30 [.int .i64 tB.s.id, .slice tB.As tB.s.cols.length tB.cs, .int .i64 tB.s.next, .int .i64 tB.sid, .slice tB.Af tB.fs.length tB.cf, .slice tB.Ar tB.rs.length tB.cr] by rw [hX8]; exact set6D_blk (HZ9.out.fut (w' := w8)) (.int .i64 tB.s.id) (.slice tB.As tB.s.cols.length tB.cs) (.int .i64 tB.s.next) (.int .i64 tB.sid) (.slice tB.Af tB.fs.length tB.cf) (.slice tB.Ar tB.rs.length tB.cr))
    have HO8 := hide (show TbOwnR X8 _ tB by rw [hX8]; exact HO2.out.set6 (HZ9.out.fut (w' := w8)) (.int .i64 tB.s.id) (.slice tB.As tB.s.cols.length tB.cs) (.int .i64 tB.s.next) (.int .i64 tB.sid) (.slice tB.Af tB.fs.length tB.cf) (.slice tB.Ar tB.rs.length tB.cr))
    have SX8 : Step X6 X8 := by rw [hX8]; exact ⟨set6D_below (fut X6 w8) (Nat.le_refl _) (.int .i64 tB.s.id) (.slice tB.As tB.s.cols.length tB.cs) (.int .i64 tB.s.next) (.int .i64 tB.sid) (.slice tB.Af tB.fs.length tB.cf) (.slice tB.Ar tB.rs.length tB.cr)⟩
    unfold set6D at hX8
    rw [← hX8]
    clear hX8 z0 z1 z2 z3 z4 z5 lz fz
    clear t0 t1 t2 t3 t4 t5 lt
    have HFL : Hid ((ys.filter fun x => !yesN [cmpN k v] x).length ≤ 20) := by show _ ≤ _; have := List.length_filter_le (fun x => !yesN [cmpN k v] x) ys; have := HYL.out; omega
    have HFR : Hid (∀ x ∈ ys.filter fun x => !yesN [cmpN k v] x, -9223372036854775808 ≤ x ∧ x ≤ 9223372036854775807) := fun x hx => HYR.out x (List.mem_filter.1 hx).1
    have HTI2 : Hid (TbIn X8 tB) := tb_in HO8.out (by rw [HT2.out]; exact tab2_may HFL.out)
    have TU0 : Hid (∀ (w' : World) [Fut X8 w'], Calls Tryz.prog 36 #[.agg #[.int .i64 tB.s.id, .slice tB.As tB.s.cols.length tB.cs, .int .i64 tB.s.next, .int .i64 tB.sid, .slice tB.Af tB.fs.length tB.cf, .slice tB.Ar tB.rs.length tB.cr], .agg #[.slice none 0 0]] w' fun e w'' => e = .returned (.int .i64 (q : Int)) ∧ Step w' w'') := fun w' _ => by
      have := total2 (w0 := X8) (w1 := X8) (ns := []) w' HT2.out HTI2.out (PrIn.none_ X8) HFR.out HFL.out none_pred none_check
      rw [none_filter, HQ.out] at this
      exact this
    have TU1 : Hid (∀ {wa : World} {b : Nat}, Blk wa b 77 [.int .i64 1, .string ⟨#[97]⟩, .int .i64 k, .int .i64 1, .int .i64 v, .bool false, .string ⟨#[]⟩, .int .i64 0, .int .i64 0] → ∀ (w' : World) [Fut X8 w'] [Fut wa w'], Calls Tryz.prog 36 #[.agg #[.int .i64 tB.s.id, .slice tB.As tB.s.cols.length tB.cs, .int .i64 tB.s.next, .int .i64 tB.sid, .slice tB.Af tB.fs.length tB.cf, .slice tB.Ar tB.rs.length tB.cr], .agg #[.slice (some ⟨b, 0, none⟩) 1 1]] w' fun e w'' => e = .returned (.int .i64 0) ∧ Step w' w'') := by
      intro wa b hb w' _ _
      have := total2 (w0 := X8) (w1 := wa) (ns := [cmpN k v]) w' HT2.out HTI2.out (pr_cmp hb) HFR.out HFL.out (cmp_pred HK0.out HK5.out) (cmp_check HK0.out HK5.out)
      rw [filt_none] at this
      exact this
    obtain ⟨t0, t1, t2, t3, t4, t5⟩ := At.z6 (HTB.out.fut (w' := X8)).at0
    have lt := (HTB.out.fut (w' := X8)).lt
    go_upto_region 9 with (go_at_call 13; (with_reducible refine (AP2.out _).mono ?_); rintro e w9 ⟨tC, rfl, ht3, ho3, hs9⟩; have HT3 := hide ht3; clear ht3 ho3)
    obtain ⟨X9, hX9⟩ : ∃ x : World, x = w9.alloc (.cells #[.int .i64 tC.s.id, .slice tC.As tC.s.cols.length tC.cs, .int .i64 tC.s.next, .int .i64 tC.sid, .slice tC.Af tC.fs.length tC.cf, .slice tC.Ar tC.rs.length tC.cr] 30) := ⟨_, rfl⟩
    have SX9 : Step w9 X9 := by rw [hX9]; exact Step.of
    have HTB3 : Hid (Blk X9 w9.heap.size 30 [.int .i64 tC.s.id, .slice tC.As tC.s.cols.length tC.cs, .int .i64 tC.s.next, .int .i64 tC.sid, .slice tC.Af tC.fs.length tC.cf, .slice tC.Ar tC.rs.length tC.cr]) := by rw [hX9]; exact Blk.new w9 _ 30
    rw [← hX9]
    clear hX9 t0 t1 t2 t3 t4 t5 lt
    have HZL : Hid (tC.rs.length = 0) := by
      show _ = _
      have := congrArg (fun q => q.rows.length) HT3.out
      simpa [TbA.tb, tab2] using this
    have hzl : (tC.rs.length : Int) = 0 := by rw [HZL.out]; rfl
    obtain ⟨t0, t1, t2, t3, t4, t5⟩ := At.z6 (HTB2.out.fut (w' := X9)).at0
    have lt := (HTB2.out.fut (w' := X9)).lt
    obtain ⟨p0, p1, p2, p3, p4, p5⟩ := At.z6 (HTB3.out.fut (w' := X9)).at0
    have lp := (HTB3.out.fut (w' := X9)).lt
    have hqe := HQE.out.1
    have hqw := HQE.out.2.1
    have hqe2 : ((q : Int) == wrap64 ((ys.length : Int) - (m : Int))) = true := by rw [hqw]; exact hqe
    have hqw3 : IntKind.i64.wrap ((ys.length : Int) - (m : Int)) = (ys.length : Int) - (m : Int) := HQE.out.2.2
    have hqe3 : ((q : Int) == IntKind.i64.wrap ((ys.length : Int) - (m : Int))) = true := by rw [hqw3]; exact hqe
    refine wp_region_held_drew (S := (fun w' => Step X9 w' ∧ (∀ b o, b < X9.heap.size → w'.cell? ⟨b, o, none⟩ = X9.cell? ⟨b, o, none⟩))) (by kernel_rfl) (by (try dsimp only); (first | exact ⟨hS1, hS2⟩ | exact ⟨Step.of, (bcell (fut _ _)).1⟩)) (fun hHeld => ?_)
    refine wpAnyH_take (i := 0) (oi := ⟨some 50, _, _, _, _, _⟩) (v := ?_) rfl (by kernel_rfl) (by kernel_rfl) (by kernel_rfl) (fun _ _ _ h => h) (Or.inl ⟨by rfl, ?_⟩) (by assumption) ?_
    rotate_left
    · ((intro w hSw); (try dsimp only at hSw); go_simp; (try with_reducible rfl))
    (try simp only [Act.put, List.setIfInBounds_toArray, List.set_cons_zero, List.set_cons_succ])
    refine wpAnyH_take (i := 1) (oi := ⟨some 51, _, _, _, _, _⟩) (v := ?_) rfl (by kernel_rfl) (by kernel_rfl) (by kernel_rfl) (fun _ _ _ h => h) (Or.inl ⟨by rfl, ?_⟩) (by assumption) ?_
    rotate_left
    · ((intro w hSw); (try dsimp only at hSw); go_simp; (try with_reducible rfl))
    (try simp only [Act.put, List.setIfInBounds_toArray, List.set_cons_zero, List.set_cons_succ])
    refine wpAnyH_take (i := 2) (oi := ⟨some 52, _, _, _, _, _⟩) (v := ?_) rfl (by kernel_rfl) (by kernel_rfl) (by kernel_rfl) (fun _ _ _ h => h) (Or.inl ⟨by rfl, ?_⟩) (by assumption) ?_
    rotate_left
    · ((intro w hSw); (try dsimp only at hSw); go_simp; (try with_reducible rfl))
    (try simp only [Act.put, List.setIfInBounds_toArray, List.set_cons_zero, List.set_cons_succ])
    refine wpAnyH_take (i := 3) (oi := ⟨some 53, _, _, _, _, _⟩) (v := ?_) rfl (by kernel_rfl) (by kernel_rfl) (by kernel_rfl) (fun _ _ _ h => h) (Or.inl ⟨by rfl, ?_⟩) (by assumption) ?_
    rotate_left
    · ((intro w hSw); (try dsimp only at hSw); go_simp; (try with_reducible rfl))
    (try simp only [Act.put, List.setIfInBounds_toArray, List.set_cons_zero, List.set_cons_succ])
    refine wpAnyH_take (i := 4) (oi := ⟨some 54, _, _, _, _, _⟩) (v := ?_) rfl (by kernel_rfl) (by kernel_rfl) (by kernel_rfl) (fun _ _ _ h => h) (Or.inl ⟨by rfl, ?_⟩) (by assumption) ?_
    rotate_left
    · ((intro w hSw); (try dsimp only at hSw); go_simp; (try with_reducible rfl))
    (try simp only [Act.put, List.setIfInBounds_toArray, List.set_cons_zero, List.set_cons_succ])
    refine wpAnyH_take (i := 5) (oi := ⟨some 55, _, _, _, _, _⟩) (v := ?_) rfl (by kernel_rfl) (by kernel_rfl) (by kernel_rfl) (fun _ _ _ h => h) (Or.inl ⟨by rfl, ?_⟩) (by assumption) ?_
    rotate_left
    · ((intro w hSw); (try dsimp only at hSw); go_simp; (try with_reducible rfl))
    (try simp only [Act.put, List.setIfInBounds_toArray, List.set_cons_zero, List.set_cons_succ])
    refine wpAnyH_take (i := 6) (oi := ⟨some 56, _, _, _, _, _⟩) (v := ?_) rfl (by kernel_rfl) (by kernel_rfl) (by kernel_rfl) (fun _ _ _ h => h) (Or.inl ⟨by rfl, ?_⟩) (by assumption) ?_
    rotate_left
    · ((intro w hSw); (try dsimp only at hSw); go_simp; (try with_reducible rfl))
    (try simp only [Act.put, List.setIfInBounds_toArray, List.set_cons_zero, List.set_cons_succ])
    refine wpAnyH_take (i := 7) (oi := ⟨some 57, _, _, _, _, _⟩) (v := ?_) rfl (by kernel_rfl) (by kernel_rfl) (by kernel_rfl) (fun _ _ _ h => h) (Or.inl ⟨by rfl, ?_⟩) (by assumption) ?_
    rotate_left
    · ((intro w hSw); (try dsimp only at hSw); go_simp; (try with_reducible rfl))
    (try simp only [Act.put, List.setIfInBounds_toArray, List.set_cons_zero, List.set_cons_succ])
    refine wpAnyH_take (i := 9) (oi := ⟨some 59, _, _, _, _, _⟩) (v := ?_) rfl (by kernel_rfl) (by kernel_rfl) (by kernel_rfl) (fun _ _ _ h => h) (Or.inl ⟨by rfl, ?_⟩) (by assumption) ?_
    rotate_left
    · ((intro w hSw); (try dsimp only at hSw); go_simp; (try with_reducible rfl))
    (try simp only [Act.put, List.setIfInBounds_toArray, List.set_cons_zero, List.set_cons_succ])
    refine wpAnyH_take (i := 10) (oi := ⟨some 60, _, _, _, _, _⟩) (v := ?_) rfl (by kernel_rfl) (by kernel_rfl) (by kernel_rfl) (fun _ _ _ h => h) (Or.inl ⟨by rfl, ?_⟩) (by assumption) ?_
    rotate_left
    · ((intro w hSw); (try dsimp only at hSw); go_simp; (try with_reducible rfl))
    (try simp only [Act.put, List.setIfInBounds_toArray, List.set_cons_zero, List.set_cons_succ])
    refine wpAnyH_take (i := 11) (oi := ⟨some 61, _, _, _, _, _⟩) (v := ?_) rfl (by kernel_rfl) (by kernel_rfl) (by kernel_rfl) (fun _ _ _ h => h) (Or.inl ⟨by rfl, ?_⟩) (by assumption) ?_
    rotate_left
    · ((intro w hSw); (try dsimp only at hSw); go_simp; (try with_reducible rfl))
    (try simp only [Act.put, List.setIfInBounds_toArray, List.set_cons_zero, List.set_cons_succ])
    refine wpAnyH_ready (rs := [8]) (by kernel_rfl) (by simp) ?_
    refine AllReadyH.cons (o := ⟨some 58, _, _, _, _, _⟩) rfl (fun K hK => ?_) AllReadyH.nil
    obtain ⟨hS1, hS2⟩ := hHeld
    go_simp
    (go_at_call 36; (with_reducible refine (TU0.out _).mono ?_); rintro e w10 ⟨rfl, hs10⟩)
    refine hK.out _ _ (by (try dsimp only); (first | exact ⟨hS1, hS2⟩ | exact ⟨Step.of, (bcell (fut _ _)).1⟩)) (fun hHeld => ?_)
    clear hK K
    (try simp only [Act.put, List.setIfInBounds_toArray, List.set_cons_zero, List.set_cons_succ])
    refine wpAnyH_take (i := 12) (oi := ⟨some 62, _, _, _, _, _⟩) (v := ?_) rfl (by kernel_rfl) (by kernel_rfl) (by kernel_rfl) (fun _ _ _ h => h) (Or.inl ⟨by rfl, ?_⟩) (by assumption) ?_
    rotate_left
    · ((intro w hSw); (try dsimp only at hSw); go_simp; (try with_reducible rfl))
    (try simp only [Act.put, List.setIfInBounds_toArray, List.set_cons_zero, List.set_cons_succ])
    refine wpAnyH_take (i := 13) (oi := ⟨some 63, _, _, _, _, _⟩) (v := ?_) rfl (by kernel_rfl) (by kernel_rfl) (by kernel_rfl) (fun _ _ _ h => h) (Or.inl ⟨by rfl, ?_⟩) (by assumption) ?_
    rotate_left
    · ((intro w hSw); (try dsimp only at hSw); go_simp; (try with_reducible rfl))
    (try simp only [Act.put, List.setIfInBounds_toArray, List.set_cons_zero, List.set_cons_succ])
    refine wpAnyH_take (i := 14) (oi := ⟨some 64, _, _, _, _, _⟩) (v := ?_) rfl (by kernel_rfl) (by kernel_rfl) (by kernel_rfl) (fun _ _ _ h => h) (Or.inl ⟨by rfl, ?_⟩) (by assumption) ?_
    rotate_left
    · ((intro w hSw); (try dsimp only at hSw); go_simp; (try with_reducible rfl))
    (try simp only [Act.put, List.setIfInBounds_toArray, List.set_cons_zero, List.set_cons_succ])
    refine wpAnyH_take (i := 15) (oi := ⟨some 65, _, _, _, _, _⟩) (v := ?_) rfl (by kernel_rfl) (by kernel_rfl) (by kernel_rfl) (fun _ _ _ h => h) (Or.inl ⟨by rfl, ?_⟩) (by assumption) ?_
    rotate_left
    · ((intro w hSw); (try dsimp only at hSw); go_simp; (try with_reducible rfl))
    (try simp only [Act.put, List.setIfInBounds_toArray, List.set_cons_zero, List.set_cons_succ])
    refine wpAnyH_take (i := 16) (oi := ⟨some 66, _, _, _, _, _⟩) (v := ?_) rfl (by kernel_rfl) (by kernel_rfl) (by kernel_rfl) (fun _ _ _ h => h) (Or.inl ⟨by rfl, ?_⟩) (by assumption) ?_
    rotate_left
    · ((intro w hSw); (try dsimp only at hSw); go_simp; (try with_reducible rfl))
    (try simp only [Act.put, List.setIfInBounds_toArray, List.set_cons_zero, List.set_cons_succ])
    refine wpAnyH_take (i := 17) (oi := ⟨some 67, _, _, _, _, _⟩) (v := ?_) rfl (by kernel_rfl) (by kernel_rfl) (by kernel_rfl) (fun _ _ _ h => h) (Or.inl ⟨by rfl, ?_⟩) (by assumption) ?_
    rotate_left
    · ((intro w hSw); (try dsimp only at hSw); go_simp; (try with_reducible rfl))
    (try simp only [Act.put, List.setIfInBounds_toArray, List.set_cons_zero, List.set_cons_succ])
    refine wpAnyH_ready (rs := [18]) (by kernel_rfl) (by simp) ?_
    refine AllReadyH.cons (o := ⟨some 68, _, _, _, _, _⟩) rfl (fun K hK => ?_) AllReadyH.nil
    obtain ⟨hS1, hS2⟩ := hHeld
    go_simp
    (go_at_call 37; (with_reducible refine (cmp25_any _ _ _).mono ?_); rintro e w11 ⟨b11, rfl, HB11_, hsw11⟩; have HB11 := hide HB11_; clear HB11_)
    refine hK.out _ _ (by (try dsimp only); (first | exact ⟨hS1, hS2⟩ | exact ⟨Step.of, (bcell (fut _ _)).1⟩)) (fun hHeld => ?_)
    clear hK K
    (try simp only [Act.put, List.setIfInBounds_toArray, List.set_cons_zero, List.set_cons_succ])
    refine wpAnyH_ready (rs := [19]) (by kernel_rfl) (by simp) ?_
    refine AllReadyH.cons (o := ⟨some 69, _, _, _, _, _⟩) rfl (fun K hK => ?_) AllReadyH.nil
    obtain ⟨hS1, hS2⟩ := hHeld
    go_simp
    (go_at_call 36; (with_reducible refine (TU1.out HB11.out _).mono ?_); rintro e w12 ⟨rfl, hsw12⟩)
    refine hK.out _ _ (by (try dsimp only); (first | exact ⟨hS1, hS2⟩ | exact ⟨Step.of, (bcell (fut _ _)).1⟩)) (fun hHeld => ?_)
    clear hK K
    (try simp only [Act.put, List.setIfInBounds_toArray, List.set_cons_zero, List.set_cons_succ])
    refine wpAnyH_take (i := 20) (oi := ⟨some 70, _, _, _, _, _⟩) (v := ?_) rfl (by kernel_rfl) (by kernel_rfl) (by kernel_rfl) (fun _ _ _ h => h) (Or.inl ⟨by rfl, ?_⟩) (by assumption) ?_
    rotate_left
    · ((intro w hSw); (try dsimp only at hSw); go_simp; (try with_reducible rfl))
    (try simp only [Act.put, List.setIfInBounds_toArray, List.set_cons_zero, List.set_cons_succ])
    refine wpAnyH_take (i := 21) (oi := ⟨some 71, _, _, _, _, _⟩) (v := ?_) rfl (by kernel_rfl) (by kernel_rfl) (by kernel_rfl) (fun _ _ _ h => h) (Or.inl ⟨by rfl, ?_⟩) (by assumption) ?_
    rotate_left
    · ((intro w hSw); (try dsimp only at hSw); go_simp; (try with_reducible rfl))
    (try simp only [Act.put, List.setIfInBounds_toArray, List.set_cons_zero, List.set_cons_succ])
    refine wpAnyH_take (i := 22) (oi := ⟨some 72, _, _, _, _, _⟩) (v := ?_) rfl (by kernel_rfl) (by kernel_rfl) (by kernel_rfl) (fun _ _ _ h => h) (Or.inl ⟨by rfl, ?_⟩) (by assumption) ?_
    rotate_left
    · ((intro w hSw); (try dsimp only at hSw); go_simp; (try with_reducible rfl))
    (try simp only [Act.put, List.setIfInBounds_toArray, List.set_cons_zero, List.set_cons_succ])
    refine wpAnyH_take (i := 23) (oi := ⟨some 73, _, _, _, _, _⟩) (v := ?_) rfl (by kernel_rfl) (by kernel_rfl) (by kernel_rfl) (fun _ _ _ h => h) (Or.inl ⟨by rfl, ?_⟩) (by assumption) ?_
    rotate_left
    · ((intro w hSw); (try dsimp only at hSw); go_simp; (try with_reducible rfl))
    (try simp only [Act.put, List.setIfInBounds_toArray, List.set_cons_zero, List.set_cons_succ])
    refine wpAnyH_take (i := 24) (oi := ⟨some 74, _, _, _, _, _⟩) (v := ?_) rfl (by kernel_rfl) (by kernel_rfl) (by kernel_rfl) (fun _ _ _ h => h) (Or.inl ⟨by rfl, ?_⟩) (by assumption) ?_
    rotate_left
    · ((intro w hSw); (try dsimp only at hSw); go_simp; (try with_reducible rfl))
    (try simp only [Act.put, List.setIfInBounds_toArray, List.set_cons_zero, List.set_cons_succ])
    refine wpAnyH_take (i := 25) (oi := ⟨some 75, _, _, _, _, _⟩) (v := ?_) rfl (by kernel_rfl) (by kernel_rfl) (by kernel_rfl) (fun _ _ _ h => h) (Or.inl ⟨by rfl, ?_⟩) (by assumption) ?_
    rotate_left
    · ((intro w hSw); (try dsimp only at hSw); go_simp; (try with_reducible rfl))
    (try simp only [Act.put, List.setIfInBounds_toArray, List.set_cons_zero, List.set_cons_succ])
    refine wpAnyH_take (i := 26) (oi := ⟨some 76, _, _, _, _, _⟩) (v := ?_) rfl (by kernel_rfl) (by kernel_rfl) (by kernel_rfl) (fun _ _ _ h => h) (Or.inl ⟨by rfl, ?_⟩) (by assumption) ?_
    rotate_left
    · ((intro w hSw); (try dsimp only at hSw); go_simp; (try with_reducible rfl))
    (try simp only [Act.put, List.setIfInBounds_toArray, List.set_cons_zero, List.set_cons_succ])
    refine wpAnyH_take (i := 27) (oi := ⟨some 77, _, _, _, _, _⟩) (v := ?_) rfl (by kernel_rfl) (by kernel_rfl) (by kernel_rfl) (fun _ _ _ h => h) (Or.inl ⟨by rfl, ?_⟩) (by assumption) ?_
    rotate_left
    · ((intro w hSw); (try dsimp only at hSw); go_simp; (try with_reducible rfl))
    (try simp only [Act.put, List.setIfInBounds_toArray, List.set_cons_zero, List.set_cons_succ])
    refine wpAnyH_take (i := 28) (oi := ⟨some 78, _, _, _, _, _⟩) (v := ?_) rfl (by kernel_rfl) (by kernel_rfl) (by kernel_rfl) (fun _ _ _ h => h) (Or.inl ⟨by rfl, ?_⟩) (by assumption) ?_
    rotate_left
    · ((intro w hSw); (try dsimp only at hSw); go_simp; (try with_reducible rfl))
    (try simp only [Act.put, List.setIfInBounds_toArray, List.set_cons_zero, List.set_cons_succ])
    refine wpAnyH_take (i := 29) (oi := ⟨some 79, _, _, _, _, _⟩) (v := ?_) rfl (by kernel_rfl) (by kernel_rfl) (by kernel_rfl) (fun _ _ _ h => h) (Or.inl ⟨by rfl, ?_⟩) (by assumption) ?_
    rotate_left
    · ((intro w hSw); (try dsimp only at hSw); go_simp; (try with_reducible rfl))
    (try simp only [Act.put, List.setIfInBounds_toArray, List.set_cons_zero, List.set_cons_succ])
    refine wpAnyH_take (i := 30) (oi := ⟨some 80, _, _, _, _, _⟩) (v := ?_) rfl (by kernel_rfl) (by kernel_rfl) (by kernel_rfl) (fun _ _ _ h => h) (Or.inl ⟨by rfl, ?_⟩) (by assumption) ?_
    rotate_left
    · ((intro w hSw); (try dsimp only at hSw); go_simp; (try with_reducible rfl))
    (try simp only [Act.put, List.setIfInBounds_toArray, List.set_cons_zero, List.set_cons_succ])
    refine wpAnyH_take (i := 31) (oi := ⟨some 81, _, _, _, _, _⟩) (v := ?_) rfl (by kernel_rfl) (by kernel_rfl) (by kernel_rfl) (fun _ _ _ h => h) (Or.inl ⟨by rfl, ?_⟩) (by assumption) ?_
    rotate_left
    · ((intro w hSw); (try dsimp only at hSw); go_simp; (try with_reducible rfl))
    (try simp only [Act.put, List.setIfInBounds_toArray, List.set_cons_zero, List.set_cons_succ])
    refine wpAnyH_take (i := 32) (oi := ⟨some 6, _, _, _, _, _⟩) (v := ?_) rfl (by kernel_rfl) (by kernel_rfl) (by kernel_rfl) (fun _ _ _ h => h) (Or.inl ⟨by rfl, ?_⟩) (by assumption) ?_
    rotate_left
    · ((intro w hSw); (try dsimp only at hSw); go_simp; (try with_reducible rfl))
    (try simp only [Act.put, List.setIfInBounds_toArray, List.set_cons_zero, List.set_cons_succ])
    refine wpAnyH_done (by kernel_rfl) ?_ _
    go_wp2_with fail
    go_ret
    exact ⟨rfl, Step.of⟩
end Go.Proofs.YtnphokhehacfnaaGreatDoor

