/-
  Texts put together: Xu.
-/
import Derived.Test.YtnphokhehacfnaaGreatDoorRz01
import Derived.Test.YtnphokhehacfnaaGreatDoorRz04
import Derived.Test.YtnphokhehacfnaaGreatDoorRz90
import Derived.Test.YtnphokhehacfnaaGreatDoorRz91
namespace Go.Proofs.YtnphokhehacfnaaGreatDoor
open Go.RowKit

theorem rem16 (x : Int) : ∃ k : Nat, wrap64 ((IntKind.u64.wrap x).tmod 16) = (k : Int) ∧ k < 16 := by
  have h0 : 0 ≤ IntKind.u64.wrap x := by simp [IntKind.wrap, IntKind.bits, IntKind.signed]; omega
  have h1 : (IntKind.u64.wrap x).tmod 16 = (IntKind.u64.wrap x) % 16 := Int.tmod_eq_emod_of_nonneg h0
  have h2 := Int.emod_nonneg (IntKind.u64.wrap x) (show (16 : Int) ≠ 0 by omega)
  have h3 := Int.emod_lt_of_pos (IntKind.u64.wrap x) (show (0 : Int) < 16 by omega)
  refine ⟨((IntKind.u64.wrap x) % 16).toNat, ?_, by omega⟩
  rw [h1]
  unfold wrap64
  omega
theorem want_get : ∀ k, k < 16 → ([.int .i64 5, .int .i64 5, .int .i64 5, .int .i64 9, .int .i64 9, .int .i64 5, .int .i64 9, .int .i64 5, .int .i64 5, .int .i64 9, .int .i64 5, .int .i64 5, .int .i64 5, .int .i64 5, .int .i64 9, .int .i64 9] : List Value)[k]? = some (.int .i64 (refWant.getD k 0))
  | 0, _ => rfl
  | 1, _ => rfl
  | 2, _ => rfl
  | 3, _ => rfl
  | 4, _ => rfl
  | 5, _ => rfl
  | 6, _ => rfl
  | 7, _ => rfl
  | 8, _ => rfl
  | 9, _ => rfl
  | 10, _ => rfl
  | 11, _ => rfl
  | 12, _ => rfl
  | 13, _ => rfl
  | 14, _ => rfl
  | 15, _ => rfl
  | n + 16, h => absurd h (by omega)
theorem fine_rowR {ys : List Int} (hr : ∀ x ∈ ys, -9223372036854775808 ≤ x ∧ x ≤ 9223372036854775807) : ∀ vs ∈ ys.map row2, ∀ v ∈ vs, FineD v := by
  intro vs hvs v hv
  obtain ⟨x, hx, rfl⟩ := List.mem_map.1 hvs
  simp only [row2, List.mem_cons, List.not_mem_nil, or_false] at hv
  rcases hv with rfl | rfl
  · exact ⟨(by show 0 ≤ 9223372036854775000; decide), hr x hx⟩
  · exact FineD.zero
theorem non_pred : predB [nonN] = false := by kernel_rfl
/-- make([]Row, 65). -/
theorem made_rows65 : ∃ O : Obj, (∀ w : World, (Instr.makeSlice 28 (.int .i64 65) (.int .i64 65)).run Tryz.prog w = .ok (.slice (some ⟨w.heap.size, 0, none⟩) 65 65) (w.alloc O)) ∧ ∀ w : World, Blk (w.alloc O) w.heap.size 67 (List.replicate 65 (.slice none 0 0)) := by
  obtain ⟨ht, ⟨i, z, hi, hz, hs, hby, hzs⟩, _, _⟩ := eiRow
  have hz0 : z = .agg #[.slice none 0 0] := by
    have h : (Tryz.prog.info? 67).map (fun i => i.zero) = some (some (.agg #[.slice none 0 0])) := by kernel_rfl
    rw [hi] at h
    simp only [Option.map_some, Option.some.injEq] at h
    rw [hz] at h
    exact Option.some.inj h
  subst hz0
  refine ⟨.cells (List.replicate 65 (Value.slice none 0 0)).toArray 67, fun w => ?_, fun w => Blk.new w _ 67⟩
  have hr := run_make (P := Tryz.prog) w 28 67 i _ ht hi hz .i64 .i64 65 65 (by omega) (Int.le_refl _) (by rw [hby]; omega) (by omega)
  rw [hs] at hr
  have hm : madeCells (Value.agg #[.slice none 0 0]).cells ((65 : Int).toNat * 1) = (List.replicate 65 (Value.slice none 0 0)).toArray := by kernel_rfl
  rw [hm] at hr
  exact hr
set_option maxRecDepth 100000 in
set_option maxHeartbeats 16000000 in
theorem refuses_any {w0 : World} (xs : List Int) (A : Option Addr) (cap : Nat) (c : Int) (w : World) (h : SlAt w0 w0.heap.size 1 A (intCells xs)) [f0 : Fut w0 w] (hl : xs.length ≤ 4611686018427387904) (hr : ∀ x ∈ xs, -9223372036854775808 ≤ x ∧ x ≤ 9223372036854775807) :
    Calls Tryz.prog 11 #[.slice A xs.length cap, .int .i64 c] w fun e w' => e = .returned (.bool true) ∧ Step w w' := by
  have FC : Hid (∀ (w' : World) [Fut w w'], Calls Tryz.prog 35 #[.slice A xs.length cap] w' fun e w'' => ∃ t : TbA, e = .returned (.tuple #[.agg #[.int .i64 t.s.id, .slice t.As t.s.cols.length t.cs, .int .i64 t.s.next, .int .i64 t.sid, .slice t.Af t.fs.length t.cf, .slice t.Ar t.rs.length t.cr], .bool true]) ∧ t.tb = fil25 xs ∧ TbOwnR w'' w'.heap.size t ∧ Step w' w'') := fun w' hq => haveI := Fut.tr f0 hq; filled_any xs A cap w' h hl hr
  obtain ⟨ys, hys⟩ : ∃ ys, xs.take 20 = ys := ⟨_, rfl⟩
  have HYL : Hid (ys.length ≤ 20) := by show _ ≤ _; rw [← hys, List.length_take]; omega
  have HYR : Hid (∀ x ∈ ys, -9223372036854775808 ≤ x ∧ x ≤ 9223372036854775807) := fun x hx => hr x (List.mem_of_mem_take (by rw [hys]; exact hx))
  have HYF : Hid (fil25 xs = tab2 ys) := by show _ = _; rw [← hys]; rfl
  clear hr
  go_enter Tryz.func11, Tryz.ntmps11
  go_upto_region 4 with (first | (go_at_call 31; (with_reducible refine (awake25_any _).mono ?_); rintro e w1 ⟨rfl, hs1⟩) | (go_at_call 35; (with_reducible refine (FC.out _).mono ?_); rintro e w2 ⟨tA, rfl, ht1, ho1, hs2⟩; have HT1 := hide ht1; have HO1 := hide ho1; clear ht1 ho1))
  rw [HYF.out] at HT1
  obtain ⟨X4, hX4⟩ : ∃ x : World, x = w2.alloc (.cells #[.int .i64 tA.s.id, .slice tA.As tA.s.cols.length tA.cs, .int .i64 tA.s.next, .int .i64 tA.sid, .slice tA.Af tA.fs.length tA.cf, .slice tA.Ar tA.rs.length tA.cr] 30) := ⟨_, rfl⟩
  have SX4 : Step w2 X4 := by rw [hX4]; exact Step.of
  have HTA : Hid (Blk X4 w2.heap.size 30 [.int .i64 tA.s.id, .slice tA.As tA.s.cols.length tA.cs, .int .i64 tA.s.next, .int .i64 tA.sid, .slice tA.Af tA.fs.length tA.cf, .slice tA.Ar tA.rs.length tA.cr]) := by rw [hX4]; exact Blk.new w2 _ 30
  rw [← hX4]
  clear hX4 hys
  obtain ⟨OBJ, hmk, hmo⟩ := made_rows65
  have HMO := hide hmo
  clear hmo
  go_upto_region 8 with fail
  obtain ⟨X7, hX7⟩ : ∃ x : World, x = ((((((X4).alloc (.cells #[.int .i64 3, .int .i64 0, .bool false, .string ⟨#[120]⟩] 36)).alloc (.cells #[.int .i64 1, .int .i64 1, .bool false, .string ⟨#[]⟩] 36)).alloc (.cells #[.int .i64 1, .string ⟨#[97]⟩, .int .i64 0, .int .i64 3, .int .i64 0, .bool false, .string ⟨#[120]⟩, .int .i64 0, .int .i64 0] 77)).alloc (.cells #[.slice (some ⟨X4.heap.size + 1 + 1, 0, none⟩) 1 1] 34)).alloc (.cells #[.int .i64 3, .string ⟨#[]⟩, .int .i64 0, .int .i64 0, .int .i64 0, .bool false, .string ⟨#[]⟩, .int .i64 0, .int .i64 0] 77)).alloc (.cells #[.slice (some ⟨X4.heap.size + 1 + 1 + 1 + 1, 0, none⟩) 1 1] 34) := ⟨_, rfl⟩
  have SX7 : Step X4 X7 := by rw [hX7]; exact Step.of
  have HV0 : Hid (Blk X7 (X4.heap.size) 36 [.int .i64 3, .int .i64 0, .bool false, .string ⟨#[120]⟩]) := by rw [hX7]; exact (((((Blk.new X4 _ 36).alloc _).alloc _).alloc _).alloc _).alloc _
  have HV1 : Hid (Blk X7 (X4.heap.size + 1) 36 [.int .i64 1, .int .i64 1, .bool false, .string ⟨#[]⟩]) := by rw [hX7]; exact ((((Blk.new_at (by simp) _ 36).alloc _).alloc _).alloc _).alloc _
  have HN0 : Hid (Blk X7 (X4.heap.size + 1 + 1) 77 [.int .i64 1, .string ⟨#[97]⟩, .int .i64 0, .int .i64 3, .int .i64 0, .bool false, .string ⟨#[120]⟩, .int .i64 0, .int .i64 0]) := by rw [hX7]; exact (((Blk.new_at (by simp) _ 77).alloc _).alloc _).alloc _
  have HP0 : Hid (Blk X7 (X4.heap.size + 1 + 1 + 1) 34 [.slice (some ⟨X4.heap.size + 1 + 1, 0, none⟩) 1 1]) := by rw [hX7]; exact ((Blk.new_at (by simp) _ 34).alloc _).alloc _
  have HN1 : Hid (Blk X7 (X4.heap.size + 1 + 1 + 1 + 1) 77 [.int .i64 3, .string ⟨#[]⟩, .int .i64 0, .int .i64 0, .int .i64 0, .bool false, .string ⟨#[]⟩, .int .i64 0, .int .i64 0]) := by rw [hX7]; exact (Blk.new_at (by simp) _ 77).alloc _
  have HP1 : Hid (Blk X7 (X4.heap.size + 1 + 1 + 1 + 1 + 1) 34 [.slice (some ⟨X4.heap.size + 1 + 1 + 1 + 1, 0, none⟩) 1 1]) := by rw [hX7]; exact Blk.new_at (by simp) _ 34
  rw [← hX7]
  clear hX7
  refine wp_region_G (by kernel_rfl) (by kernel_rfl) (G8 (X4.heap.size + 1 + 1) (X4.heap.size + 1 + 1 + 1 + 1)) [34, 35, 36, 37, 38, 39, 40, 41, 42, 43, 44, 45, 46, 47, 48, 49, 50, 51, 52, 53, 54, 55, 56, 57, 58, 59, 60, 61, 62, 63, 64, 65, 66, 67, 68, 69, 70, 71, 11] [undef, undef, undef, undef, undef, undef, undef, undef, undef, undef, undef, undef, undef, undef, undef, undef, undef, undef, undef, undef, undef, undef, undef, undef, undef, undef, undef, undef, undef, undef, undef, undef, undef, undef, undef, undef, undef, undef, undef] rfl (by simp only [putAll, Act.put, List.setIfInBounds_toArray, List.set_cons_zero, List.set_cons_succ]) (fun i v w w' => G8.fut _ _ i v w w') (fun i vs w' hi hl hbw hd => ?_) (fun vs w' hl hbw hg => ?_)
  · replace hi : i < 39 := hi
    replace hl : vs.length = 38 + 1 := hl
    have SW' : Step X7 w' := ⟨hbw⟩
    have hl0 := hl
    clear hl
    obtain ⟨v0, vs, rfl, hl1⟩ := len_cons hl0
    clear hl0
    obtain ⟨v1, vs, rfl, hl2⟩ := len_cons hl1
    clear hl1
    obtain ⟨v2, vs, rfl, hl3⟩ := len_cons hl2
    clear hl2
    obtain ⟨v3, vs, rfl, hl4⟩ := len_cons hl3
    clear hl3
    obtain ⟨v4, vs, rfl, hl5⟩ := len_cons hl4
    clear hl4
    obtain ⟨v5, vs, rfl, hl6⟩ := len_cons hl5
    clear hl5
    obtain ⟨v6, vs, rfl, hl7⟩ := len_cons hl6
    clear hl6
    obtain ⟨v7, vs, rfl, hl8⟩ := len_cons hl7
    clear hl7
    obtain ⟨v8, vs, rfl, hl9⟩ := len_cons hl8
    clear hl8
    obtain ⟨v9, vs, rfl, hl10⟩ := len_cons hl9
    clear hl9
    obtain ⟨v10, vs, rfl, hl11⟩ := len_cons hl10
    clear hl10
    obtain ⟨v11, vs, rfl, hl12⟩ := len_cons hl11
    clear hl11
    obtain ⟨v12, vs, rfl, hl13⟩ := len_cons hl12
    clear hl12
    obtain ⟨v13, vs, rfl, hl14⟩ := len_cons hl13
    clear hl13
    obtain ⟨v14, vs, rfl, hl15⟩ := len_cons hl14
    clear hl14
    obtain ⟨v15, vs, rfl, hl16⟩ := len_cons hl15
    clear hl15
    obtain ⟨v16, vs, rfl, hl17⟩ := len_cons hl16
    clear hl16
    obtain ⟨v17, vs, rfl, hl18⟩ := len_cons hl17
    clear hl17
    obtain ⟨v18, vs, rfl, hl19⟩ := len_cons hl18
    clear hl18
    obtain ⟨v19, vs, rfl, hl20⟩ := len_cons hl19
    clear hl19
    obtain ⟨v20, vs, rfl, hl21⟩ := len_cons hl20
    clear hl20
    obtain ⟨v21, vs, rfl, hl22⟩ := len_cons hl21
    clear hl21
    obtain ⟨v22, vs, rfl, hl23⟩ := len_cons hl22
    clear hl22
    obtain ⟨v23, vs, rfl, hl24⟩ := len_cons hl23
    clear hl23
    obtain ⟨v24, vs, rfl, hl25⟩ := len_cons hl24
    clear hl24
    obtain ⟨v25, vs, rfl, hl26⟩ := len_cons hl25
    clear hl25
    obtain ⟨v26, vs, rfl, hl27⟩ := len_cons hl26
    clear hl26
    obtain ⟨v27, vs, rfl, hl28⟩ := len_cons hl27
    clear hl27
    obtain ⟨v28, vs, rfl, hl29⟩ := len_cons hl28
    clear hl28
    obtain ⟨v29, vs, rfl, hl30⟩ := len_cons hl29
    clear hl29
    obtain ⟨v30, vs, rfl, hl31⟩ := len_cons hl30
    clear hl30
    obtain ⟨v31, vs, rfl, hl32⟩ := len_cons hl31
    clear hl31
    obtain ⟨v32, vs, rfl, hl33⟩ := len_cons hl32
    clear hl32
    obtain ⟨v33, vs, rfl, hl34⟩ := len_cons hl33
    clear hl33
    obtain ⟨v34, vs, rfl, hl35⟩ := len_cons hl34
    clear hl34
    obtain ⟨v35, vs, rfl, hl36⟩ := len_cons hl35
    clear hl35
    obtain ⟨v36, vs, rfl, hl37⟩ := len_cons hl36
    clear hl36
    obtain ⟨v37, vs, rfl, hl38⟩ := len_cons hl37
    clear hl37
    obtain ⟨v38, vs, rfl, hl39⟩ := len_cons hl38
    clear hl38
    obtain rfl := List.length_eq_zero_iff.1 hl39
    clear hl39
    have hc : i = 0 ∨ i = 1 ∨ i = 2 ∨ i = 3 ∨ i = 4 ∨ i = 5 ∨ i = 6 ∨ i = 7 ∨ i = 8 ∨ i = 9 ∨ i = 10 ∨ i = 11 ∨ i = 12 ∨ i = 13 ∨ i = 14 ∨ i = 15 ∨ i = 16 ∨ i = 17 ∨ i = 18 ∨ i = 19 ∨ i = 20 ∨ i = 21 ∨ i = 22 ∨ i = 23 ∨ i = 24 ∨ i = 25 ∨ i = 26 ∨ i = 27 ∨ i = 28 ∨ i = 29 ∨ i = 30 ∨ i = 31 ∨ i = 32 ∨ i = 33 ∨ i = 34 ∨ i = 35 ∨ i = 36 ∨ i = 37 ∨ i = 38 := by omega
    clear hi
    rcases hc with rfl | rfl | rfl | rfl | rfl | rfl | rfl | rfl | rfl | rfl | rfl | rfl | rfl | rfl | rfl | rfl | rfl | rfl | rfl | rfl | rfl | rfl | rfl | rfl | rfl | rfl | rfl | rfl | rfl | rfl | rfl | rfl | rfl | rfl | rfl | rfl | rfl | rfl | rfl
    · clear hd
      refine wpOp_step (o := ⟨some 34, _, _, _, _, _⟩) rfl (fun K hK => ?_)
      have hK : Shut _ := hK
      simp only [putAll, Act.put, List.setIfInBounds_toArray, List.set_cons_zero, List.set_cons_succ]
      go_simp
      refine hK.out _ _ ⟨.slice (some ⟨w'.heap.size, 0, none⟩) 1 1, by simp only [putAll, Act.put, List.setIfInBounds_toArray, List.set_cons_zero, List.set_cons_succ], belAl _ _, ?_⟩
      exact gstr1 w' ⟨#[122]⟩
    · clear hd
      obtain ⟨y0, y1, y2, y3⟩ := At.z4 (HV1.out.fut (w' := w')).at0
      have ly := (HV1.out.fut (w' := w')).lt
      refine wpOp_step (o := ⟨some 35, _, _, _, _, _⟩) rfl (fun K hK => ?_)
      have hK : Shut _ := hK
      simp only [putAll, Act.put, List.setIfInBounds_toArray, List.set_cons_zero, List.set_cons_succ]
      go_simp
      refine hK.out _ _ ⟨.agg #[.int .i64 1, .int .i64 1, .bool false, .string ⟨#[]⟩], by simp only [putAll, Act.put, List.setIfInBounds_toArray, List.set_cons_zero, List.set_cons_succ], Below.refl _ _, ?_⟩
      exact rfl
    · have h1 : G8 (X4.heap.size + 1 + 1) (X4.heap.size + 1 + 1 + 1 + 1) 1 v1 w' := hd 1 (by kernel_rfl)
      clear hd
      obtain rfl : v1 = .agg #[.int .i64 1, .int .i64 1, .bool false, .string ⟨#[]⟩] := h1
      refine wpOp_step (o := ⟨some 36, _, _, _, _, _⟩) rfl (fun K hK => ?_)
      have hK : Shut _ := hK
      simp only [putAll, Act.put, List.setIfInBounds_toArray, List.set_cons_zero, List.set_cons_succ]
      go_simp
      refine hK.out _ _ ⟨.slice (some ⟨w'.heap.size, 0, none⟩) 1 1, by simp only [putAll, Act.put, List.setIfInBounds_toArray, List.set_cons_zero, List.set_cons_succ], belAl _ _, ?_⟩
      exact gval1 w' (kv25 1)
    · have h2 : G8 (X4.heap.size + 1 + 1) (X4.heap.size + 1 + 1 + 1 + 1) 2 v2 w' := hd 2 (by kernel_rfl)
      clear hd
      obtain ⟨b, rfl, hb⟩ := h2
      refine wpOp_step (o := ⟨some 37, _, _, _, _, _⟩) rfl (fun K hK => ?_)
      have hK : Shut _ := hK
      simp only [putAll, Act.put, List.setIfInBounds_toArray, List.set_cons_zero, List.set_cons_succ]
      go_simp
      refine hK.out _ _ ⟨.agg #[.slice (some ⟨b, 0, none⟩) 1 1], by simp only [putAll, Act.put, List.setIfInBounds_toArray, List.set_cons_zero, List.set_cons_succ], Below.refl _ _, ?_⟩
      exact ⟨_, rfl, b, rfl, hb⟩
    · have h3 : G8 (X4.heap.size + 1 + 1) (X4.heap.size + 1 + 1 + 1 + 1) 3 v3 w' := hd 3 (by kernel_rfl)
      clear hd
      obtain ⟨u, rfl, b, rfl, hb⟩ := h3
      refine wpOp_step (o := ⟨some 38, _, _, _, _, _⟩) rfl (fun K hK => ?_)
      have hK : Shut _ := hK
      simp only [putAll, Act.put, List.setIfInBounds_toArray, List.set_cons_zero, List.set_cons_succ]
      go_simp
      refine hK.out _ _ ⟨.slice (some ⟨w'.heap.size, 0, none⟩) 1 1, by simp only [putAll, Act.put, List.setIfInBounds_toArray, List.set_cons_zero, List.set_cons_succ], belAl _ _, ?_⟩
      exact grow1 hb fine_kv1
    · have h0 : G8 (X4.heap.size + 1 + 1) (X4.heap.size + 1 + 1 + 1 + 1) 0 v0 w' := hd 0 (by kernel_rfl)
      have h4 : G8 (X4.heap.size + 1 + 1) (X4.heap.size + 1 + 1 + 1 + 1) 4 v4 w' := hd 4 (by kernel_rfl)
      clear hd
      obtain ⟨b, hv, hb⟩ := h0
      obtain rfl : v0 = .slice (some ⟨b, 0, none⟩) 1 1 := hv
      obtain ⟨b2, rs, rfl, hrs, hvs, hfi⟩ := h4
      refine wpOp_step (o := ⟨some 39, _, _, _, _, _⟩) rfl (fun K hK => ?_)
      have hK : Shut _ := hK
      simp only [putAll, Act.put, List.setIfInBounds_toArray, List.set_cons_zero, List.set_cons_succ]
      go_simp
      refine hK.out _ _ ⟨.agg #[.int .i64 (0), .string ⟨#[]⟩, .slice (some ⟨b, 0, none⟩) 1 1, .slice (some ⟨b2, 0, none⟩) rs.length rs.length, .slice none 0 0, .string ⟨#[]⟩, .string ⟨#[]⟩, .int .i64 0, .int .i64 0, .int .i64 0, .bool false, .string ⟨#[]⟩, .slice none 0 0, .int .i64 0, .int .i64 0, .int .i64 0], by simp only [putAll, Act.put, List.setIfInBounds_toArray, List.set_cons_zero, List.set_cons_succ], Below.refl _ _, ?_⟩
      exact ⟨_, rfl, opinR hb (by show 1 ≤ _; decide) hrs hfi, by rw [OpA.op, hvs]; rfl⟩
    · clear hd
      refine wpOp_step (o := ⟨some 40, _, _, _, _, _⟩) rfl (fun K hK => ?_)
      have hK : Shut _ := hK
      simp only [putAll, Act.put, List.setIfInBounds_toArray, List.set_cons_zero, List.set_cons_succ]
      go_simp
      refine hK.out _ _ ⟨.slice (some ⟨w'.heap.size, 0, none⟩) 1 1, by simp only [putAll, Act.put, List.setIfInBounds_toArray, List.set_cons_zero, List.set_cons_succ], belAl _ _, ?_⟩
      exact gstr1 w' ⟨#[97]⟩
    · clear hd
      obtain ⟨y0, y1, y2, y3⟩ := At.z4 (HV0.out.fut (w' := w')).at0
      have ly := (HV0.out.fut (w' := w')).lt
      refine wpOp_step (o := ⟨some 41, _, _, _, _, _⟩) rfl (fun K hK => ?_)
      have hK : Shut _ := hK
      simp only [putAll, Act.put, List.setIfInBounds_toArray, List.set_cons_zero, List.set_cons_succ]
      go_simp
      refine hK.out _ _ ⟨.agg #[.int .i64 3, .int .i64 0, .bool false, .string ⟨#[120]⟩], by simp only [putAll, Act.put, List.setIfInBounds_toArray, List.set_cons_zero, List.set_cons_succ], Below.refl _ _, ?_⟩
      exact rfl
    · have h7 : G8 (X4.heap.size + 1 + 1) (X4.heap.size + 1 + 1 + 1 + 1) 7 v7 w' := hd 7 (by kernel_rfl)
      clear hd
      obtain rfl : v7 = .agg #[.int .i64 3, .int .i64 0, .bool false, .string ⟨#[120]⟩] := h7
      refine wpOp_step (o := ⟨some 42, _, _, _, _, _⟩) rfl (fun K hK => ?_)
      have hK : Shut _ := hK
      simp only [putAll, Act.put, List.setIfInBounds_toArray, List.set_cons_zero, List.set_cons_succ]
      go_simp
      refine hK.out _ _ ⟨.slice (some ⟨w'.heap.size, 0, none⟩) 1 1, by simp only [putAll, Act.put, List.setIfInBounds_toArray, List.set_cons_zero, List.set_cons_succ], belAl _ _, ?_⟩
      exact gval1 w' tx25
    · have h8 : G8 (X4.heap.size + 1 + 1) (X4.heap.size + 1 + 1 + 1 + 1) 8 v8 w' := hd 8 (by kernel_rfl)
      clear hd
      obtain ⟨b, rfl, hb⟩ := h8
      refine wpOp_step (o := ⟨some 43, _, _, _, _, _⟩) rfl (fun K hK => ?_)
      have hK : Shut _ := hK
      simp only [putAll, Act.put, List.setIfInBounds_toArray, List.set_cons_zero, List.set_cons_succ]
      go_simp
      refine hK.out _ _ ⟨.agg #[.slice (some ⟨b, 0, none⟩) 1 1], by simp only [putAll, Act.put, List.setIfInBounds_toArray, List.set_cons_zero, List.set_cons_succ], Below.refl _ _, ?_⟩
      exact ⟨_, rfl, b, rfl, hb⟩
    · have h9 : G8 (X4.heap.size + 1 + 1) (X4.heap.size + 1 + 1 + 1 + 1) 9 v9 w' := hd 9 (by kernel_rfl)
      clear hd
      obtain ⟨u, rfl, b, rfl, hb⟩ := h9
      refine wpOp_step (o := ⟨some 44, _, _, _, _, _⟩) rfl (fun K hK => ?_)
      have hK : Shut _ := hK
      simp only [putAll, Act.put, List.setIfInBounds_toArray, List.set_cons_zero, List.set_cons_succ]
      go_simp
      refine hK.out _ _ ⟨.slice (some ⟨w'.heap.size, 0, none⟩) 1 1, by simp only [putAll, Act.put, List.setIfInBounds_toArray, List.set_cons_zero, List.set_cons_succ], belAl _ _, ?_⟩
      exact grow1 hb fine_tx
    · have h6 : G8 (X4.heap.size + 1 + 1) (X4.heap.size + 1 + 1 + 1 + 1) 6 v6 w' := hd 6 (by kernel_rfl)
      have h10 : G8 (X4.heap.size + 1 + 1) (X4.heap.size + 1 + 1 + 1 + 1) 10 v10 w' := hd 10 (by kernel_rfl)
      clear hd
      obtain ⟨b, hv, hb⟩ := h6
      obtain rfl : v6 = .slice (some ⟨b, 0, none⟩) 1 1 := hv
      obtain ⟨b2, rs, rfl, hrs, hvs, hfi⟩ := h10
      refine wpOp_step (o := ⟨some 45, _, _, _, _, _⟩) rfl (fun K hK => ?_)
      have hK : Shut _ := hK
      simp only [putAll, Act.put, List.setIfInBounds_toArray, List.set_cons_zero, List.set_cons_succ]
      go_simp
      refine hK.out _ _ ⟨.agg #[.int .i64 (0), .string ⟨#[]⟩, .slice (some ⟨b, 0, none⟩) 1 1, .slice (some ⟨b2, 0, none⟩) rs.length rs.length, .slice none 0 0, .string ⟨#[]⟩, .string ⟨#[]⟩, .int .i64 0, .int .i64 0, .int .i64 0, .bool false, .string ⟨#[]⟩, .slice none 0 0, .int .i64 0, .int .i64 0, .int .i64 0], by simp only [putAll, Act.put, List.setIfInBounds_toArray, List.set_cons_zero, List.set_cons_succ], Below.refl _ _, ?_⟩
      exact ⟨_, rfl, opinR hb (by show 1 ≤ _; decide) hrs hfi, by rw [OpA.op, hvs]; rfl⟩
    · clear hd
      refine wpOp_step (o := ⟨some 46, _, _, _, _, _⟩) rfl (fun K hK => ?_)
      have hK : Shut _ := hK
      simp only [putAll, Act.put, List.setIfInBounds_toArray, List.set_cons_zero, List.set_cons_succ]
      go_simp
      refine hK.out _ _ ⟨.slice (some ⟨w'.heap.size, 0, none⟩) 2 2, by simp only [putAll, Act.put, List.setIfInBounds_toArray, List.set_cons_zero, List.set_cons_succ], belAl _ _, ?_⟩
      exact gstr2 w' ⟨#[97]⟩ ⟨#[97]⟩
    · have h12 : G8 (X4.heap.size + 1 + 1) (X4.heap.size + 1 + 1 + 1 + 1) 12 v12 w' := hd 12 (by kernel_rfl)
      clear hd
      obtain ⟨b, hv, hb⟩ := h12
      obtain rfl : v12 = .slice (some ⟨b, 0, none⟩) 2 2 := hv
      refine wpOp_step (o := ⟨some 47, _, _, _, _, _⟩) rfl (fun K hK => ?_)
      have hK : Shut _ := hK
      simp only [putAll, Act.put, List.setIfInBounds_toArray, List.set_cons_zero, List.set_cons_succ]
      go_simp
      refine hK.out _ _ ⟨.agg #[.int .i64 (0), .string ⟨#[]⟩, .slice (some ⟨b, 0, none⟩) 2 2, .slice none 0 0, .slice none 0 0, .string ⟨#[]⟩, .string ⟨#[]⟩, .int .i64 0, .int .i64 0, .int .i64 0, .bool false, .string ⟨#[]⟩, .slice none 0 0, .int .i64 0, .int .i64 0, .int .i64 0], by simp only [putAll, Act.put, List.setIfInBounds_toArray, List.set_cons_zero, List.set_cons_succ], Below.refl _ _, ?_⟩
      exact ⟨_, rfl, opinC hb (by show 2 ≤ _; decide), rfl⟩
    · clear hd
      refine wpOp_step (o := ⟨some 48, _, _, _, _, _⟩) rfl (fun K hK => ?_)
      have hK : Shut _ := hK
      simp only [putAll, Act.put, List.setIfInBounds_toArray, List.set_cons_zero, List.set_cons_succ]
      go_simp
      refine hK.out _ _ ⟨.slice (some ⟨w'.heap.size, 0, none⟩) 1 1, by simp only [putAll, Act.put, List.setIfInBounds_toArray, List.set_cons_zero, List.set_cons_succ], belAl _ _, ?_⟩
      exact gstr1 w' ⟨#[97]⟩
    · clear hd
      refine wpOp_step (o := ⟨some 49, _, _, _, _, _⟩) rfl (fun K hK => ?_)
      have hK : Shut _ := hK
      simp only [putAll, Act.put, List.setIfInBounds_toArray, List.set_cons_zero, List.set_cons_succ]
      go_simp
      refine hK.out _ _ ⟨.agg #[.slice none 0 0], by simp only [putAll, Act.put, List.setIfInBounds_toArray, List.set_cons_zero, List.set_cons_succ], Below.refl _ _, ?_⟩
      exact rfl
    · have h15 : G8 (X4.heap.size + 1 + 1) (X4.heap.size + 1 + 1 + 1 + 1) 15 v15 w' := hd 15 (by kernel_rfl)
      clear hd
      obtain rfl : v15 = .agg #[.slice none 0 0] := h15
      refine wpOp_step (o := ⟨some 50, _, _, _, _, _⟩) rfl (fun K hK => ?_)
      have hK : Shut _ := hK
      simp only [putAll, Act.put, List.setIfInBounds_toArray, List.set_cons_zero, List.set_cons_succ]
      go_simp
      refine hK.out _ _ ⟨.slice (some ⟨w'.heap.size, 0, none⟩) 1 1, by simp only [putAll, Act.put, List.setIfInBounds_toArray, List.set_cons_zero, List.set_cons_succ], belAl _ _, ?_⟩
      exact grow0 w'
    · have h14 : G8 (X4.heap.size + 1 + 1) (X4.heap.size + 1 + 1 + 1 + 1) 14 v14 w' := hd 14 (by kernel_rfl)
      have h16 : G8 (X4.heap.size + 1 + 1) (X4.heap.size + 1 + 1 + 1 + 1) 16 v16 w' := hd 16 (by kernel_rfl)
      clear hd
      obtain ⟨b, hv, hb⟩ := h14
      obtain rfl : v14 = .slice (some ⟨b, 0, none⟩) 1 1 := hv
      obtain ⟨b2, rs, rfl, hrs, hvs, hfi⟩ := h16
      refine wpOp_step (o := ⟨some 51, _, _, _, _, _⟩) rfl (fun K hK => ?_)
      have hK : Shut _ := hK
      simp only [putAll, Act.put, List.setIfInBounds_toArray, List.set_cons_zero, List.set_cons_succ]
      go_simp
      refine hK.out _ _ ⟨.agg #[.int .i64 (0), .string ⟨#[]⟩, .slice (some ⟨b, 0, none⟩) 1 1, .slice (some ⟨b2, 0, none⟩) rs.length rs.length, .slice none 0 0, .string ⟨#[]⟩, .string ⟨#[]⟩, .int .i64 0, .int .i64 0, .int .i64 0, .bool false, .string ⟨#[]⟩, .slice none 0 0, .int .i64 0, .int .i64 0, .int .i64 0], by simp only [putAll, Act.put, List.setIfInBounds_toArray, List.set_cons_zero, List.set_cons_succ], Below.refl _ _, ?_⟩
      exact ⟨_, rfl, opinR hb (by show 1 ≤ _; decide) hrs hfi, by rw [OpA.op, hvs]; rfl⟩
    · clear hd
      refine wpOp_step (o := ⟨some 52, _, _, _, _, _⟩) rfl (fun K hK => ?_)
      have hK : Shut _ := hK
      simp only [putAll, Act.put, List.setIfInBounds_toArray, List.set_cons_zero, List.set_cons_succ]
      go_simp
      refine hK.out _ _ ⟨.slice (some ⟨w'.heap.size, 0, none⟩) 1 1, by simp only [putAll, Act.put, List.setIfInBounds_toArray, List.set_cons_zero, List.set_cons_succ], belAl _ _, ?_⟩
      exact gstr1 w' ⟨#[97]⟩
    · clear hd
      refine wpOp_step (o := ⟨some 53, _, _, _, _, _⟩) rfl (fun K hK => ?_)
      have hK : Shut _ := hK
      simp only [putAll, Act.put, List.setIfInBounds_toArray, List.set_cons_zero, List.set_cons_succ]
      go_simp
      refine hK.out _ _ ⟨.slice (some ⟨w'.heap.size, 0, none⟩) 65 65, by simp only [putAll, Act.put, List.setIfInBounds_toArray, List.set_cons_zero, List.set_cons_succ], belAl _ _, ?_⟩
      exact grow65 (HMO.out w')
    · have h18 : G8 (X4.heap.size + 1 + 1) (X4.heap.size + 1 + 1 + 1 + 1) 18 v18 w' := hd 18 (by kernel_rfl)
      have h19 : G8 (X4.heap.size + 1 + 1) (X4.heap.size + 1 + 1 + 1 + 1) 19 v19 w' := hd 19 (by kernel_rfl)
      clear hd
      obtain ⟨b, hv, hb⟩ := h18
      obtain rfl : v18 = .slice (some ⟨b, 0, none⟩) 1 1 := hv
      obtain ⟨b2, rs, rfl, hrs, hvs, hfi⟩ := h19
      refine wpOp_step (o := ⟨some 54, _, _, _, _, _⟩) rfl (fun K hK => ?_)
      have hK : Shut _ := hK
      simp only [putAll, Act.put, List.setIfInBounds_toArray, List.set_cons_zero, List.set_cons_succ]
      go_simp
      refine hK.out _ _ ⟨.agg #[.int .i64 (0), .string ⟨#[]⟩, .slice (some ⟨b, 0, none⟩) 1 1, .slice (some ⟨b2, 0, none⟩) rs.length rs.length, .slice none 0 0, .string ⟨#[]⟩, .string ⟨#[]⟩, .int .i64 0, .int .i64 0, .int .i64 0, .bool false, .string ⟨#[]⟩, .slice none 0 0, .int .i64 0, .int .i64 0, .int .i64 0], by simp only [putAll, Act.put, List.setIfInBounds_toArray, List.set_cons_zero, List.set_cons_succ], Below.refl _ _, ?_⟩
      exact ⟨_, rfl, opinR hb (by show 1 ≤ _; decide) hrs hfi, by rw [OpA.op, hvs]; rfl⟩
    · clear hd
      have y0 := At.z1 (HP0.out.fut (w' := w')).at0
      have ly := (HP0.out.fut (w' := w')).lt
      refine wpOp_step (o := ⟨some 55, _, _, _, _, _⟩) rfl (fun K hK => ?_)
      have hK : Shut _ := hK
      simp only [putAll, Act.put, List.setIfInBounds_toArray, List.set_cons_zero, List.set_cons_succ]
      go_simp
      refine hK.out _ _ ⟨.agg #[.slice (some ⟨X4.heap.size + 1 + 1, 0, none⟩) 1 1], by simp only [putAll, Act.put, List.setIfInBounds_toArray, List.set_cons_zero, List.set_cons_succ], Below.refl _ _, ?_⟩
      exact rfl
    · have h21 : G8 (X4.heap.size + 1 + 1) (X4.heap.size + 1 + 1 + 1 + 1) 21 v21 w' := hd 21 (by kernel_rfl)
      clear hd
      obtain rfl : v21 = .agg #[.slice (some ⟨X4.heap.size + 1 + 1, 0, none⟩) 1 1] := h21
      refine wpOp_step (o := ⟨some 56, _, _, _, _, _⟩) rfl (fun K hK => ?_)
      have hK : Shut _ := hK
      simp only [putAll, Act.put, List.setIfInBounds_toArray, List.set_cons_zero, List.set_cons_succ]
      go_simp
      refine hK.out _ _ ⟨.agg #[.int .i64 (1), .string ⟨#[]⟩, .slice none 0 0, .slice none 0 0, .slice (some ⟨X4.heap.size + 1 + 1, 0, none⟩) 1 1, .string ⟨#[]⟩, .string ⟨#[]⟩, .int .i64 0, .int .i64 0, .int .i64 0, .bool false, .string ⟨#[]⟩, .slice none 0 0, .int .i64 0, .int .i64 0, .int .i64 0], by simp only [putAll, Act.put, List.setIfInBounds_toArray, List.set_cons_zero, List.set_cons_succ], Below.refl _ _, ?_⟩
      exact ⟨_, rfl, opinP 1 (pr_bad (HN0.out.fut (w' := w'))) 0, rfl⟩
    · clear hd
      have y0 := At.z1 (HP1.out.fut (w' := w')).at0
      have ly := (HP1.out.fut (w' := w')).lt
      refine wpOp_step (o := ⟨some 57, _, _, _, _, _⟩) rfl (fun K hK => ?_)
      have hK : Shut _ := hK
      simp only [putAll, Act.put, List.setIfInBounds_toArray, List.set_cons_zero, List.set_cons_succ]
      go_simp
      refine hK.out _ _ ⟨.agg #[.slice (some ⟨X4.heap.size + 1 + 1 + 1 + 1, 0, none⟩) 1 1], by simp only [putAll, Act.put, List.setIfInBounds_toArray, List.set_cons_zero, List.set_cons_succ], Below.refl _ _, ?_⟩
      exact rfl
    · have h23 : G8 (X4.heap.size + 1 + 1) (X4.heap.size + 1 + 1 + 1 + 1) 23 v23 w' := hd 23 (by kernel_rfl)
      clear hd
      obtain rfl : v23 = .agg #[.slice (some ⟨X4.heap.size + 1 + 1 + 1 + 1, 0, none⟩) 1 1] := h23
      refine wpOp_step (o := ⟨some 58, _, _, _, _, _⟩) rfl (fun K hK => ?_)
      have hK : Shut _ := hK
      simp only [putAll, Act.put, List.setIfInBounds_toArray, List.set_cons_zero, List.set_cons_succ]
      go_simp
      refine hK.out _ _ ⟨.agg #[.int .i64 (2), .string ⟨#[]⟩, .slice none 0 0, .slice none 0 0, .slice (some ⟨X4.heap.size + 1 + 1 + 1 + 1, 0, none⟩) 1 1, .string ⟨#[]⟩, .string ⟨#[]⟩, .int .i64 0, .int .i64 0, .int .i64 0, .bool false, .string ⟨#[]⟩, .slice none 0 0, .int .i64 0, .int .i64 0, .int .i64 0], by simp only [putAll, Act.put, List.setIfInBounds_toArray, List.set_cons_zero, List.set_cons_succ], Below.refl _ _, ?_⟩
      exact ⟨_, rfl, opinP 2 (pr_non (HN1.out.fut (w' := w'))) 0, rfl⟩
    · clear hd
      obtain ⟨y0, y1, y2, y3⟩ := At.z4 (HV1.out.fut (w' := w')).at0
      have ly := (HV1.out.fut (w' := w')).lt
      refine wpOp_step (o := ⟨some 59, _, _, _, _, _⟩) rfl (fun K hK => ?_)
      have hK : Shut _ := hK
      simp only [putAll, Act.put, List.setIfInBounds_toArray, List.set_cons_zero, List.set_cons_succ]
      go_simp
      refine hK.out _ _ ⟨.agg #[.int .i64 1, .int .i64 1, .bool false, .string ⟨#[]⟩], by simp only [putAll, Act.put, List.setIfInBounds_toArray, List.set_cons_zero, List.set_cons_succ], Below.refl _ _, ?_⟩
      exact rfl
    · have h25 : G8 (X4.heap.size + 1 + 1) (X4.heap.size + 1 + 1 + 1 + 1) 25 v25 w' := hd 25 (by kernel_rfl)
      clear hd
      obtain rfl : v25 = .agg #[.int .i64 1, .int .i64 1, .bool false, .string ⟨#[]⟩] := h25
      refine wpOp_step (o := ⟨some 60, _, _, _, _, _⟩) rfl (fun K hK => ?_)
      have hK : Shut _ := hK
      simp only [putAll, Act.put, List.setIfInBounds_toArray, List.set_cons_zero, List.set_cons_succ]
      go_simp
      refine hK.out _ _ ⟨.agg #[.int .i64 (3), .string ⟨#[]⟩, .slice none 0 0, .slice none 0 0, .slice none 0 0, .string ⟨#[122]⟩, .string ⟨#[]⟩, .int .i64 0, .int .i64 1, .int .i64 1, .bool false, .string ⟨#[]⟩, .slice none 0 0, .int .i64 0, .int .i64 0, .int .i64 0], by simp only [putAll, Act.put, List.setIfInBounds_toArray, List.set_cons_zero, List.set_cons_succ], Below.refl _ _, ?_⟩
      exact ⟨_, rfl, opin0 w' 3 ⟨#[122]⟩ ⟨#[]⟩ 0 (kv25 1) (by show 0 ≤ _; decide) fine_kv1 0, rfl⟩
    · clear hd
      obtain ⟨y0, y1, y2, y3⟩ := At.z4 (HV1.out.fut (w' := w')).at0
      have ly := (HV1.out.fut (w' := w')).lt
      refine wpOp_step (o := ⟨some 61, _, _, _, _, _⟩) rfl (fun K hK => ?_)
      have hK : Shut _ := hK
      simp only [putAll, Act.put, List.setIfInBounds_toArray, List.set_cons_zero, List.set_cons_succ]
      go_simp
      refine hK.out _ _ ⟨.agg #[.int .i64 1, .int .i64 1, .bool false, .string ⟨#[]⟩], by simp only [putAll, Act.put, List.setIfInBounds_toArray, List.set_cons_zero, List.set_cons_succ], Below.refl _ _, ?_⟩
      exact rfl
    · have h27 : G8 (X4.heap.size + 1 + 1) (X4.heap.size + 1 + 1 + 1 + 1) 27 v27 w' := hd 27 (by kernel_rfl)
      clear hd
      obtain rfl : v27 = .agg #[.int .i64 1, .int .i64 1, .bool false, .string ⟨#[]⟩] := h27
      refine wpOp_step (o := ⟨some 62, _, _, _, _, _⟩) rfl (fun K hK => ?_)
      have hK : Shut _ := hK
      simp only [putAll, Act.put, List.setIfInBounds_toArray, List.set_cons_zero, List.set_cons_succ]
      go_simp
      refine hK.out _ _ ⟨.agg #[.int .i64 (3), .string ⟨#[]⟩, .slice none 0 0, .slice none 0 0, .slice none 0 0, .string ⟨#[98]⟩, .string ⟨#[]⟩, .int .i64 0, .int .i64 1, .int .i64 1, .bool false, .string ⟨#[]⟩, .slice none 0 0, .int .i64 0, .int .i64 0, .int .i64 0], by simp only [putAll, Act.put, List.setIfInBounds_toArray, List.set_cons_zero, List.set_cons_succ], Below.refl _ _, ?_⟩
      exact ⟨_, rfl, opin0 w' 3 ⟨#[98]⟩ ⟨#[]⟩ 0 (kv25 1) (by show 0 ≤ _; decide) fine_kv1 0, rfl⟩
    · clear hd
      refine wpOp_step (o := ⟨some 63, _, _, _, _, _⟩) rfl (fun K hK => ?_)
      have hK : Shut _ := hK
      simp only [putAll, Act.put, List.setIfInBounds_toArray, List.set_cons_zero, List.set_cons_succ]
      go_simp
      refine hK.out _ _ ⟨.agg #[.int .i64 9, .int .i64 0, .bool false, .string ⟨#[]⟩], by simp only [putAll, Act.put, List.setIfInBounds_toArray, List.set_cons_zero, List.set_cons_succ], Below.refl _ _, ?_⟩
      exact rfl
    · have h29 : G8 (X4.heap.size + 1 + 1) (X4.heap.size + 1 + 1 + 1 + 1) 29 v29 w' := hd 29 (by kernel_rfl)
      clear hd
      obtain rfl : v29 = .agg #[.int .i64 9, .int .i64 0, .bool false, .string ⟨#[]⟩] := h29
      refine wpOp_step (o := ⟨some 64, _, _, _, _, _⟩) rfl (fun K hK => ?_)
      have hK : Shut _ := hK
      simp only [putAll, Act.put, List.setIfInBounds_toArray, List.set_cons_zero, List.set_cons_succ]
      go_simp
      refine hK.out _ _ ⟨.agg #[.int .i64 (3), .string ⟨#[]⟩, .slice none 0 0, .slice none 0 0, .slice none 0 0, .string ⟨#[97]⟩, .string ⟨#[]⟩, .int .i64 0, .int .i64 9, .int .i64 0, .bool false, .string ⟨#[]⟩, .slice none 0 0, .int .i64 0, .int .i64 0, .int .i64 0], by simp only [putAll, Act.put, List.setIfInBounds_toArray, List.set_cons_zero, List.set_cons_succ], Below.refl _ _, ?_⟩
      exact ⟨_, rfl, opin0 w' 3 ⟨#[97]⟩ ⟨#[]⟩ 0 ⟨9, 0, false, e0⟩ (by show 0 ≤ _; decide) ⟨by decide, by decide, by decide⟩ 0, rfl⟩
    · clear hd
      refine wpOp_step (o := ⟨some 65, _, _, _, _, _⟩) rfl (fun K hK => ?_)
      have hK : Shut _ := hK
      simp only [putAll, Act.put, List.setIfInBounds_toArray, List.set_cons_zero, List.set_cons_succ]
      go_simp
      refine hK.out _ _ ⟨.agg #[.int .i64 (4), .string ⟨#[]⟩, .slice none 0 0, .slice none 0 0, .slice none 0 0, .string ⟨#[]⟩, .string ⟨#[97]⟩, .int .i64 1, .int .i64 0, .int .i64 0, .bool false, .string ⟨#[]⟩, .slice none 0 0, .int .i64 0, .int .i64 0, .int .i64 0], by simp only [putAll, Act.put, List.setIfInBounds_toArray, List.set_cons_zero, List.set_cons_succ], Below.refl _ _, ?_⟩
      exact ⟨_, rfl, opin0 w' 4 ⟨#[]⟩ ⟨#[97]⟩ 1 no25 (by show 1 ≤ _; decide) fine_no 0, rfl⟩
    · clear hd
      refine wpOp_step (o := ⟨some 66, _, _, _, _, _⟩) rfl (fun K hK => ?_)
      have hK : Shut _ := hK
      simp only [putAll, Act.put, List.setIfInBounds_toArray, List.set_cons_zero, List.set_cons_succ]
      go_simp
      refine hK.out _ _ ⟨.agg #[.int .i64 (4), .string ⟨#[]⟩, .slice none 0 0, .slice none 0 0, .slice none 0 0, .string ⟨#[]⟩, .string ⟨#[120]⟩, .int .i64 7, .int .i64 0, .int .i64 0, .bool false, .string ⟨#[]⟩, .slice none 0 0, .int .i64 0, .int .i64 0, .int .i64 0], by simp only [putAll, Act.put, List.setIfInBounds_toArray, List.set_cons_zero, List.set_cons_succ], Below.refl _ _, ?_⟩
      exact ⟨_, rfl, opin0 w' 4 ⟨#[]⟩ ⟨#[120]⟩ 7 no25 (by show 1 ≤ _; decide) fine_no 0, rfl⟩
    · clear hd
      refine wpOp_step (o := ⟨some 67, _, _, _, _, _⟩) rfl (fun K hK => ?_)
      have hK : Shut _ := hK
      simp only [putAll, Act.put, List.setIfInBounds_toArray, List.set_cons_zero, List.set_cons_succ]
      go_simp
      refine hK.out _ _ ⟨.agg #[.int .i64 (5), .string ⟨#[]⟩, .slice none 0 0, .slice none 0 0, .slice none 0 0, .string ⟨#[122]⟩, .string ⟨#[]⟩, .int .i64 0, .int .i64 0, .int .i64 0, .bool false, .string ⟨#[]⟩, .slice none 0 0, .int .i64 0, .int .i64 0, .int .i64 0], by simp only [putAll, Act.put, List.setIfInBounds_toArray, List.set_cons_zero, List.set_cons_succ], Below.refl _ _, ?_⟩
      exact ⟨_, rfl, opin0 w' 5 ⟨#[122]⟩ ⟨#[]⟩ 0 no25 (by show 0 ≤ _; decide) fine_no 0, rfl⟩
    · clear hd
      refine wpOp_step (o := ⟨some 68, _, _, _, _, _⟩) rfl (fun K hK => ?_)
      have hK : Shut _ := hK
      simp only [putAll, Act.put, List.setIfInBounds_toArray, List.set_cons_zero, List.set_cons_succ]
      go_simp
      refine hK.out _ _ ⟨.agg #[.int .i64 (6), .string ⟨#[]⟩, .slice none 0 0, .slice none 0 0, .slice none 0 0, .string ⟨#[97]⟩, .string ⟨#[98]⟩, .int .i64 0, .int .i64 0, .int .i64 0, .bool false, .string ⟨#[]⟩, .slice none 0 0, .int .i64 0, .int .i64 0, .int .i64 0], by simp only [putAll, Act.put, List.setIfInBounds_toArray, List.set_cons_zero, List.set_cons_succ], Below.refl _ _, ?_⟩
      exact ⟨_, rfl, opin0 w' 6 ⟨#[97]⟩ ⟨#[98]⟩ 0 no25 (by show 1 ≤ _; decide) fine_no 0, rfl⟩
    · clear hd
      refine wpOp_step (o := ⟨some 69, _, _, _, _, _⟩) rfl (fun K hK => ?_)
      have hK : Shut _ := hK
      simp only [putAll, Act.put, List.setIfInBounds_toArray, List.set_cons_zero, List.set_cons_succ]
      go_simp
      refine hK.out _ _ ⟨.agg #[.int .i64 (9), .string ⟨#[]⟩, .slice none 0 0, .slice none 0 0, .slice none 0 0, .string ⟨#[]⟩, .string ⟨#[]⟩, .int .i64 0, .int .i64 0, .int .i64 0, .bool false, .string ⟨#[]⟩, .slice none 0 0, .int .i64 0, .int .i64 0, .int .i64 0], by simp only [putAll, Act.put, List.setIfInBounds_toArray, List.set_cons_zero, List.set_cons_succ], Below.refl _ _, ?_⟩
      exact ⟨_, rfl, opin0 w' 9 ⟨#[]⟩ ⟨#[]⟩ 0 no25 (by show 0 ≤ _; decide) fine_no 0, rfl⟩
    · clear hd
      refine wpOp_step (o := ⟨some 70, _, _, _, _, _⟩) rfl (fun K hK => ?_)
      have hK : Shut _ := hK
      simp only [putAll, Act.put, List.setIfInBounds_toArray, List.set_cons_zero, List.set_cons_succ]
      go_simp
      refine hK.out _ _ ⟨.agg #[.int .i64 (-1), .string ⟨#[]⟩, .slice none 0 0, .slice none 0 0, .slice none 0 0, .string ⟨#[]⟩, .string ⟨#[]⟩, .int .i64 0, .int .i64 0, .int .i64 0, .bool false, .string ⟨#[]⟩, .slice none 0 0, .int .i64 0, .int .i64 0, .int .i64 0], by simp only [putAll, Act.put, List.setIfInBounds_toArray, List.set_cons_zero, List.set_cons_succ], Below.refl _ _, ?_⟩
      exact ⟨_, rfl, opin0 w' (-1) ⟨#[]⟩ ⟨#[]⟩ 0 no25 (by show 0 ≤ _; decide) fine_no 0, rfl⟩
    · have h5 : G8 (X4.heap.size + 1 + 1) (X4.heap.size + 1 + 1 + 1 + 1) 5 v5 w' := hd 5 (by kernel_rfl)
      have h11 : G8 (X4.heap.size + 1 + 1) (X4.heap.size + 1 + 1 + 1 + 1) 11 v11 w' := hd 11 (by kernel_rfl)
      have h13 : G8 (X4.heap.size + 1 + 1) (X4.heap.size + 1 + 1 + 1 + 1) 13 v13 w' := hd 13 (by kernel_rfl)
      have h17 : G8 (X4.heap.size + 1 + 1) (X4.heap.size + 1 + 1 + 1 + 1) 17 v17 w' := hd 17 (by kernel_rfl)
      have h20 : G8 (X4.heap.size + 1 + 1) (X4.heap.size + 1 + 1 + 1 + 1) 20 v20 w' := hd 20 (by kernel_rfl)
      have h22 : G8 (X4.heap.size + 1 + 1) (X4.heap.size + 1 + 1 + 1 + 1) 22 v22 w' := hd 22 (by kernel_rfl)
      have h24 : G8 (X4.heap.size + 1 + 1) (X4.heap.size + 1 + 1 + 1 + 1) 24 v24 w' := hd 24 (by kernel_rfl)
      have h26 : G8 (X4.heap.size + 1 + 1) (X4.heap.size + 1 + 1 + 1 + 1) 26 v26 w' := hd 26 (by kernel_rfl)
      have h28 : G8 (X4.heap.size + 1 + 1) (X4.heap.size + 1 + 1 + 1 + 1) 28 v28 w' := hd 28 (by kernel_rfl)
      have h30 : G8 (X4.heap.size + 1 + 1) (X4.heap.size + 1 + 1 + 1 + 1) 30 v30 w' := hd 30 (by kernel_rfl)
      have h31 : G8 (X4.heap.size + 1 + 1) (X4.heap.size + 1 + 1 + 1 + 1) 31 v31 w' := hd 31 (by kernel_rfl)
      have h32 : G8 (X4.heap.size + 1 + 1) (X4.heap.size + 1 + 1 + 1 + 1) 32 v32 w' := hd 32 (by kernel_rfl)
      have h33 : G8 (X4.heap.size + 1 + 1) (X4.heap.size + 1 + 1 + 1 + 1) 33 v33 w' := hd 33 (by kernel_rfl)
      have h34 : G8 (X4.heap.size + 1 + 1) (X4.heap.size + 1 + 1 + 1 + 1) 34 v34 w' := hd 34 (by kernel_rfl)
      have h35 : G8 (X4.heap.size + 1 + 1) (X4.heap.size + 1 + 1 + 1 + 1) 35 v35 w' := hd 35 (by kernel_rfl)
      have h36 : G8 (X4.heap.size + 1 + 1) (X4.heap.size + 1 + 1 + 1 + 1) 36 v36 w' := hd 36 (by kernel_rfl)
      clear hd
      obtain ⟨o5, rfl, i5, e5⟩ := h5
      obtain ⟨o11, rfl, i11, e11⟩ := h11
      obtain ⟨o13, rfl, i13, e13⟩ := h13
      obtain ⟨o17, rfl, i17, e17⟩ := h17
      obtain ⟨o20, rfl, i20, e20⟩ := h20
      obtain ⟨o22, rfl, i22, e22⟩ := h22
      obtain ⟨o24, rfl, i24, e24⟩ := h24
      obtain ⟨o26, rfl, i26, e26⟩ := h26
      obtain ⟨o28, rfl, i28, e28⟩ := h28
      obtain ⟨o30, rfl, i30, e30⟩ := h30
      obtain ⟨o31, rfl, i31, e31⟩ := h31
      obtain ⟨o32, rfl, i32, e32⟩ := h32
      obtain ⟨o33, rfl, i33, e33⟩ := h33
      obtain ⟨o34, rfl, i34, e34⟩ := h34
      obtain ⟨o35, rfl, i35, e35⟩ := h35
      obtain ⟨o36, rfl, i36, e36⟩ := h36
      refine wpOp_step (o := ⟨some 71, _, _, _, _, _⟩) rfl (fun K hK => ?_)
      have hK : Shut _ := hK
      simp only [putAll, Act.put, List.setIfInBounds_toArray, List.set_cons_zero, List.set_cons_succ]
      simp (maxSteps := 5000000) [go_sem]
      refine hK.out _ _ ⟨.slice (some ⟨w'.heap.size, 0, none⟩) 16 16, by simp only [putAll, Act.put, List.setIfInBounds_toArray, List.set_cons_zero, List.set_cons_succ], belAl _ _, ?_⟩
      exact gops_of (os := [o5, o11, o13, o17, o20, o22, o24, o26, o28, o30, o31, o32, o33, o34, o35, o36]) rfl (SlAt.new (l := [o5, o11, o13, o17, o20, o22, o24, o26, o28, o30, o31, o32, o33, o34, o35, o36].map OpA.cells) (by simp only [List.map_cons, List.map_nil, List.flatten_cons, List.flatten_nil, OpA.cells, List.cons_append, List.nil_append, List.append_nil]) (fun x hx => by obtain ⟨o, _, rfl⟩ := List.mem_map.1 hx; rfl)) (fun k hk => match k, hk with
        | 0, _ => ⟨o5, rfl, i5, e5⟩
        | 1, _ => ⟨o11, rfl, i11, e11⟩
        | 2, _ => ⟨o13, rfl, i13, e13⟩
        | 3, _ => ⟨o17, rfl, i17, e17⟩
        | 4, _ => ⟨o20, rfl, i20, e20⟩
        | 5, _ => ⟨o22, rfl, i22, e22⟩
        | 6, _ => ⟨o24, rfl, i24, e24⟩
        | 7, _ => ⟨o26, rfl, i26, e26⟩
        | 8, _ => ⟨o28, rfl, i28, e28⟩
        | 9, _ => ⟨o30, rfl, i30, e30⟩
        | 10, _ => ⟨o31, rfl, i31, e31⟩
        | 11, _ => ⟨o32, rfl, i32, e32⟩
        | 12, _ => ⟨o33, rfl, i33, e33⟩
        | 13, _ => ⟨o34, rfl, i34, e34⟩
        | 14, _ => ⟨o35, rfl, i35, e35⟩
        | 15, _ => ⟨o36, rfl, i36, e36⟩
        | n + 16, h => absurd h (by omega))
    · have h37 : G8 (X4.heap.size + 1 + 1) (X4.heap.size + 1 + 1 + 1 + 1) 37 v37 w' := hd 37 (by kernel_rfl)
      clear hd
      refine wpOp_step (o := ⟨some 11, _, _, _, _, _⟩) rfl (fun K hK => ?_)
      have hK : Shut _ := hK
      simp only [putAll, Act.put, List.setIfInBounds_toArray, List.set_cons_zero, List.set_cons_succ]
      go_simp
      refine hK.out _ _ ⟨v37, by simp only [putAll, Act.put, List.setIfInBounds_toArray, List.set_cons_zero, List.set_cons_succ], Below.refl _ _, ?_⟩
      exact h37
  · replace hl : vs.length = 38 + 1 := hl
    have SW_ : Step X7 w' := ⟨hbw⟩
    have hl0 := hl
    clear hl
    obtain ⟨v0, vs, rfl, hl1⟩ := len_cons hl0
    clear hl0
    obtain ⟨v1, vs, rfl, hl2⟩ := len_cons hl1
    clear hl1
    obtain ⟨v2, vs, rfl, hl3⟩ := len_cons hl2
    clear hl2
    obtain ⟨v3, vs, rfl, hl4⟩ := len_cons hl3
    clear hl3
    obtain ⟨v4, vs, rfl, hl5⟩ := len_cons hl4
    clear hl4
    obtain ⟨v5, vs, rfl, hl6⟩ := len_cons hl5
    clear hl5
    obtain ⟨v6, vs, rfl, hl7⟩ := len_cons hl6
    clear hl6
    obtain ⟨v7, vs, rfl, hl8⟩ := len_cons hl7
    clear hl7
    obtain ⟨v8, vs, rfl, hl9⟩ := len_cons hl8
    clear hl8
    obtain ⟨v9, vs, rfl, hl10⟩ := len_cons hl9
    clear hl9
    obtain ⟨v10, vs, rfl, hl11⟩ := len_cons hl10
    clear hl10
    obtain ⟨v11, vs, rfl, hl12⟩ := len_cons hl11
    clear hl11
    obtain ⟨v12, vs, rfl, hl13⟩ := len_cons hl12
    clear hl12
    obtain ⟨v13, vs, rfl, hl14⟩ := len_cons hl13
    clear hl13
    obtain ⟨v14, vs, rfl, hl15⟩ := len_cons hl14
    clear hl14
    obtain ⟨v15, vs, rfl, hl16⟩ := len_cons hl15
    clear hl15
    obtain ⟨v16, vs, rfl, hl17⟩ := len_cons hl16
    clear hl16
    obtain ⟨v17, vs, rfl, hl18⟩ := len_cons hl17
    clear hl17
    obtain ⟨v18, vs, rfl, hl19⟩ := len_cons hl18
    clear hl18
    obtain ⟨v19, vs, rfl, hl20⟩ := len_cons hl19
    clear hl19
    obtain ⟨v20, vs, rfl, hl21⟩ := len_cons hl20
    clear hl20
    obtain ⟨v21, vs, rfl, hl22⟩ := len_cons hl21
    clear hl21
    obtain ⟨v22, vs, rfl, hl23⟩ := len_cons hl22
    clear hl22
    obtain ⟨v23, vs, rfl, hl24⟩ := len_cons hl23
    clear hl23
    obtain ⟨v24, vs, rfl, hl25⟩ := len_cons hl24
    clear hl24
    obtain ⟨v25, vs, rfl, hl26⟩ := len_cons hl25
    clear hl25
    obtain ⟨v26, vs, rfl, hl27⟩ := len_cons hl26
    clear hl26
    obtain ⟨v27, vs, rfl, hl28⟩ := len_cons hl27
    clear hl27
    obtain ⟨v28, vs, rfl, hl29⟩ := len_cons hl28
    clear hl28
    obtain ⟨v29, vs, rfl, hl30⟩ := len_cons hl29
    clear hl29
    obtain ⟨v30, vs, rfl, hl31⟩ := len_cons hl30
    clear hl30
    obtain ⟨v31, vs, rfl, hl32⟩ := len_cons hl31
    clear hl31
    obtain ⟨v32, vs, rfl, hl33⟩ := len_cons hl32
    clear hl32
    obtain ⟨v33, vs, rfl, hl34⟩ := len_cons hl33
    clear hl33
    obtain ⟨v34, vs, rfl, hl35⟩ := len_cons hl34
    clear hl34
    obtain ⟨v35, vs, rfl, hl36⟩ := len_cons hl35
    clear hl35
    obtain ⟨v36, vs, rfl, hl37⟩ := len_cons hl36
    clear hl36
    obtain ⟨v37, vs, rfl, hl38⟩ := len_cons hl37
    clear hl37
    obtain ⟨v38, vs, rfl, hl39⟩ := len_cons hl38
    clear hl38
    obtain rfl := List.length_eq_zero_iff.1 hl39
    clear hl39
    obtain ⟨Aop, os, rfl, hlen, hsl, hops⟩ := (show GOps v38 w' from hg 38 (by show 38 < 39; decide))
    clear hg
    simp only [putAll, Act.put, List.setIfInBounds_toArray, List.set_cons_zero, List.set_cons_succ]
    go_upto_region 11 with fail
    obtain ⟨X9, hX9⟩ : ∃ x : World, x = w'.alloc (.cells #[.int .i64 5, .int .i64 5, .int .i64 5, .int .i64 9, .int .i64 9, .int .i64 5, .int .i64 9, .int .i64 5, .int .i64 5, .int .i64 9, .int .i64 5, .int .i64 5, .int .i64 5, .int .i64 5, .int .i64 9, .int .i64 9] 3) := ⟨_, rfl⟩
    have SX9 : Step w' X9 := by rw [hX9]; exact Step.of
    have HWB : Hid (Blk X9 w'.heap.size 3 [.int .i64 5, .int .i64 5, .int .i64 5, .int .i64 9, .int .i64 9, .int .i64 5, .int .i64 9, .int .i64 5, .int .i64 5, .int .i64 9, .int .i64 5, .int .i64 5, .int .i64 5, .int .i64 5, .int .i64 9, .int .i64 9]) := by rw [hX9]; exact Blk.new w' _ 3
    rw [← hX9]
    clear hX9
    obtain ⟨k, hk, hk16⟩ := rem16 c
    rw [hk]
    clear hk
    obtain ⟨o, hok, hin, hop⟩ := hops k hk16
    obtain ⟨ob, off, rfl, hob, hc⟩ := hsl.elem (w' := X9) inferInstance (k := k) (by rw [List.length_map, hlen]; exact hk16)
    obtain ⟨e_, he_⟩ : ∃ e_, refWant.getD k 0 = e_ := ⟨_, rfl⟩
    have HAE : Hid (applyP (tab2 ys) o.op = (tab2 ys, e_)) := by show _ = _; rw [hop, ← he_]; exact ref_apply ys HYL.out k hk16
    have HWK : Hid (([.int .i64 5, .int .i64 5, .int .i64 5, .int .i64 9, .int .i64 9, .int .i64 5, .int .i64 9, .int .i64 5, .int .i64 5, .int .i64 9, .int .i64 5, .int .i64 5, .int .i64 5, .int .i64 5, .int .i64 9, .int .i64 9] : List Value)[k]? = some (.int .i64 e_)) := by show _ = _; rw [← he_]; exact want_get k hk16
    have HIN := hide hin
    have HYC := hide (hc k o.cells (by rw [List.getElem?_map, hok]; rfl))
    have hz9 := (fut w' X9).size
    have lob : ob < X9.heap.size := by omega
    have hkl : (k : Int) < 16 := by omega
    have hk0 : (0 : Int) ≤ (k : Int) := by omega
    clear hops hsl hlen hok hop hin he_ hc
    have HTIA : Hid (TbIn X9 tA) := (tb_in HO1.out (by rw [HT1.out]; exact tab2_may HYL.out)).fut
    have HFI : Hid (∀ vs ∈ tA.tb.rows, ∀ v ∈ vs, FineD v) := by show ∀ vs ∈ tA.tb.rows, ∀ v ∈ vs, FineD v; rw [HT1.out]; exact fine_rowR HYR.out
    have AP : Hid (∀ (w'' : World), Fut X9 w'' → Calls Tryz.prog 13 #[.agg #[.int .i64 tA.s.id, .slice tA.As tA.s.cols.length tA.cs, .int .i64 tA.s.next, .int .i64 tA.sid, .slice tA.Af tA.fs.length tA.cf, .slice tA.Ar tA.rs.length tA.cr], .agg #[.int .i64 o.kind, .string o.txn, .slice o.Ac o.cols.length o.cc, .slice o.Ar o.rows.length o.cr, .slice o.An o.ns.length o.cn, .string o.col, .string o.name, .int .i64 o.ck, .int .i64 o.v.kind, .int .i64 o.v.i, .bool o.v.b, .string o.v.s, .slice o.Af o.fs.length o.cf, .int .i64 o.ver, .int .i64 o.time, .int .i64 o.agg]] w'' (ApplyR w'' (tab2 ys, e_))) := fun w'' hq => by
      haveI : Fut w' w'' := Fut.tr (fut_ofG (fut w' X9)) hq
      have := apply_any25 (w0 := X9) (w1 := w') tA o w'' HTIA.out HIN.out
      rw [HT1.out, HAE.out] at this
      exact this
    obtain ⟨y0, y1, y2, y3, y4, y5, y6, y7, y8, y9, y10, y11, y12, y13, y14, y15⟩ := At.lOp HYC.out
    obtain ⟨t0, t1, t2, t3, t4, t5⟩ := At.z6 (HTA.out.fut (w' := X9)).at0
    have lt := (HTA.out.fut (w' := X9)).lt
    refine wp_region_held_drew (S := (fun w' => Step X9 w' ∧ (∀ b o, b < X9.heap.size → w'.cell? ⟨b, o, none⟩ = X9.cell? ⟨b, o, none⟩))) (by kernel_rfl) (by (try dsimp only); (first | exact ⟨hS1, hS2⟩ | exact ⟨Step.of, (bcell (fut _ _)).1⟩)) (fun hHeld => ?_)
    refine wT 0 78 (by assumption) ?_
    refine wT 1 79 (by assumption) ?_
    refine wT 2 80 (by assumption) ?_
    refine wT 3 81 (by assumption) ?_
    refine wT 4 82 (by assumption) ?_
    refine wpAnyH_ready (rs := [5, 9]) (by kernel_rfl) (by simp) ?_
    refine AllReadyH.cons (o := ⟨some 83, _, _, _, _, _⟩) rfl (fun K hK => ?_) (AllReadyH.cons (o := ⟨some 14, _, _, _, _, _⟩) rfl (fun K hK => ?_) AllReadyH.nil)
    · obtain ⟨hS1, hS2⟩ := hHeld
      go_simp
      (go_at_call 13; (with_reducible refine (AP.out _ inferInstance).mono ?_); rintro e w3 ⟨tU, rfl, ht2, ho2, hs3⟩; have HT2 := hide ht2; have HO2 := hide ho2; clear ht2 ho2; try (clear z0 z1 z2 z3 z4 z5 lz fz; obtain ⟨z0, z1, z2, z3, z4, z5⟩ := At.z6 (HZ9.out.fut (w' := w3)).at0; have lz := (HZ9.out.fut (w' := w3)).lt; have fz := (HZ9.out.fut (w' := w3)).free))
      refine hK.out _ _ (by (try dsimp only); (first | exact ⟨hS1, hS2⟩ | exact ⟨Step.of, (bcell (fut _ _)).1⟩)) (fun hHeld => ?_)
      clear hK K
      refine wT 6 77 (by assumption) ?_
      refine wT 7 84 (by assumption) ?_
      refine wT 8 85 (by assumption) ?_
      refine wpAnyH_ready (rs := [9]) (by kernel_rfl) (by simp) ?_
      refine AllReadyH.cons (o := ⟨some 14, _, _, _, _, _⟩) rfl (fun K hK => ?_) AllReadyH.nil
      go_simp
      first | (have HZ9 := hide (Blk.new w3 [.int .i64 0, .slice none 0 0, .int .i64 0, .int .i64 0, .slice none 0 0, .slice none 0 0] 30)) | (have HZ9 := hide (Blk.new X9 [.int .i64 0, .slice none 0 0, .int .i64 0, .int .i64 0, .slice none 0 0, .slice none 0 0] 30))
      obtain ⟨z0, z1, z2, z3, z4, z5⟩ := At.z6 HZ9.out.at0
      have lz := HZ9.out.lt
      have fz := HZ9.out.free
      refine hK.out _ _ (by (try dsimp only); (first | exact ⟨hS1, hS2⟩ | exact ⟨Step.of, (bcell (fut _ _)).1⟩)) (fun hHeld => ?_)
      clear hK K
      refine wpAnyH_ready (rs := [10]) (by kernel_rfl) (by simp) ?_
      refine AllReadyH.cons (o := ⟨none, _, _, _, _, _⟩) rfl (fun K hK => ?_) AllReadyH.nil
      go_simp
      refine hK.out _ _ (by (try dsimp only); (constructor; exact Step.of; intro b o h; exact (fut X9 _).cell (p := ⟨b, o, none⟩) h)) (fun hHeld => ?_)
      clear hK K
      (try simp only [Act.put, List.setIfInBounds_toArray, List.set_cons_zero, List.set_cons_succ])
      refine wT 11 15 (by assumption) ?_
      refine wpAnyH_done (by kernel_rfl) ?_ _
      go_upto_region 12 with fail
      obtain ⟨X11, hX11⟩ : ∃ x : World, x = w3.alloc (.cells #[.int .i64 tU.s.id, .slice tU.As tU.s.cols.length tU.cs, .int .i64 tU.s.next, .int .i64 tU.sid, .slice tU.Af tU.fs.length tU.cf, .slice tU.Ar tU.rs.length tU.cr] 30) := ⟨_, rfl⟩
      have HTU := hide (show Blk X11 w3.heap.size 30 [.int .i64 tU.s.id, .slice tU.As tU.s.cols.length tU.cs, .int .i64 tU.s.next, .int .i64 tU.sid, .slice tU.Af tU.fs.length tU.cf, .slice tU.Ar tU.rs.length tU.cr] by rw [hX11]; exact Blk.new w3 _ 30)
      have SX11' : Step w3 X11 := by rw [hX11]; exact Step.of
      have HO2F := hide (show TbOwnR X11 _ tU from HO2.out.fut)
      have SX11 : Step X9 X11 := ⟨fut X9 X11⟩
      rw [← hX11]
      clear hX11 SX11' z0 z1 z2 z3 z4 z5 lz fz
      clear t0 t1 t2 t3 t4 t5 lt
      clear y0 y1 y2 y3 y4 y5 y6 y7 y8 y9 y10 y11 y12 y13 y14 y15
      have HTIU : Hid (TbIn X11 tU) := tb_in HO2F.out (by rw [HT2.out]; exact tab2_may HYL.out)
      have RA : Hid (∀ (w'' : World), Fut X11 w'' → Calls Tryz.prog 32 #[.agg #[.int .i64 tA.s.id, .slice tA.As tA.s.cols.length tA.cs, .int .i64 tA.s.next, .int .i64 tA.sid, .slice tA.Af tA.fs.length tA.cf, .slice tA.Ar tA.rs.length tA.cr], .agg #[.int .i64 9, .string ⟨#[]⟩, .slice none 0 0, .slice none 0 0, .slice none 0 0, .string ⟨#[98]⟩, .string ⟨#[]⟩, .int .i64 0, .int .i64 0, .int .i64 0, .bool false, .string ⟨#[]⟩, .slice none 0 0, .int .i64 0, .int .i64 0, .int .i64 2]] w'' fun e w3 => e = .returned (.agg #[.int .i64 0, .slice none 0 0, .slice none 0 0, .int .i64 0, .int .i64 0, .bool false, .string ⟨#[]⟩]) ∧ Step w'' w3) := fun w'' hq => by
        haveI : Fut X9 w'' := Fut.tr (fut_ofG (fut X9 X11)) hq
        have := readAgg (w0 := X9) (w1 := X9) tA ⟨9, ⟨#[]⟩, [], none, 0, [], none, 0, [], none, 0, ⟨#[98]⟩, ⟨#[]⟩, 0, no25, [], none, 0, 0, 0, 2⟩ w'' HTIA.out (opin0 _ 9 ⟨#[98]⟩ ⟨#[]⟩ 0 no25 (by show 0 ≤ _; decide) fine_no 2) (by show (2 : Int) ≠ 0; decide) HFI.out
        rw [HT1.out] at this
        rw [show readT _ (OpA.op ⟨9, ⟨#[]⟩, [], none, 0, [], none, 0, [], none, 0, ⟨#[98]⟩, ⟨#[]⟩, 0, no25, [], none, 0, 0, 0, 2⟩) = _ from sumB2 HYL.out] at this
        exact this
      obtain ⟨t0, t1, t2, t3, t4, t5⟩ := At.z6 (HTA.out.fut (w' := X11)).at0
      have lt := (HTA.out.fut (w' := X11)).lt
      go_upto_region 13 with (go_at_call 32; (with_reducible refine (RA.out _ inferInstance).mono ?_); rintro e w4 ⟨rfl, hs4⟩)
      clear t0 t1 t2 t3 t4 t5 lt
      obtain ⟨X12, hX12⟩ : ∃ x : World, x = w4.alloc (.cells #[.int .i64 0, .slice none 0 0, .slice none 0 0, .int .i64 0, .int .i64 0, .bool false, .string ⟨#[]⟩] 59) := ⟨_, rfl⟩
      have SX12 : Step w4 X12 := by rw [hX12]; exact Step.of
      have HR12 : Hid (Blk X12 w4.heap.size 59 [.int .i64 0, .slice none 0 0, .slice none 0 0, .int .i64 0, .int .i64 0, .bool false, .string ⟨#[]⟩]) := by rw [hX12]; exact Blk.new w4 _ 59
      rw [← hX12]
      clear hX12
      have RB : Hid (∀ (w'' : World), Fut X12 w'' → Calls Tryz.prog 32 #[.agg #[.int .i64 tA.s.id, .slice tA.As tA.s.cols.length tA.cs, .int .i64 tA.s.next, .int .i64 tA.sid, .slice tA.Af tA.fs.length tA.cf, .slice tA.Ar tA.rs.length tA.cr], .agg #[.int .i64 9, .string ⟨#[]⟩, .slice none 0 0, .slice none 0 0, .slice (some ⟨X4.heap.size + 1 + 1 + 1 + 1, 0, none⟩) 1 1, .string ⟨#[]⟩, .string ⟨#[]⟩, .int .i64 0, .int .i64 0, .int .i64 0, .bool false, .string ⟨#[]⟩, .slice none 0 0, .int .i64 0, .int .i64 0, .int .i64 0]] w'' fun e w3 => e = .returned (.agg #[.int .i64 9, .slice none 0 0, .slice none 0 0, .int .i64 0, .int .i64 0, .bool false, .string ⟨#[]⟩]) ∧ Step w'' w3) := fun w'' hq => by
        haveI : Fut X9 w'' := Fut.tr (fut_ofG (fut X9 X12)) hq
        exact readBad (w0 := X9) (w1 := X9) tA ⟨9, ⟨#[]⟩, [], none, 0, [], none, 0, [nonN], some ⟨X4.heap.size + 1 + 1 + 1 + 1, 0, none⟩, 1, ⟨#[]⟩, ⟨#[]⟩, 0, no25, [], none, 0, 0, 0, 0⟩ w'' HTIA.out (opinP 9 (pr_non (HN1.out.fut (w' := X9))) 0) (by rw [HT1.out]; exact tab2_may HYL.out) rfl non_pred
      obtain ⟨t0, t1, t2, t3, t4, t5⟩ := At.z6 (HTA.out.fut (w' := X12)).at0
      have lt := (HTA.out.fut (w' := X12)).lt
      have q0 := At.z1 (HP1.out.fut (w' := X12)).at0
      have lq := (HP1.out.fut (w' := X12)).lt
      go_upto_region 14 with (go_at_call 32; (with_reducible refine (RB.out _ inferInstance).mono ?_); rintro e w5 ⟨rfl, hs5⟩)
      clear t0 t1 t2 t3 t4 t5 lt
      clear q0 lq
      obtain ⟨X13, hX13⟩ : ∃ x : World, x = w5.alloc (.cells #[.int .i64 9, .slice none 0 0, .slice none 0 0, .int .i64 0, .int .i64 0, .bool false, .string ⟨#[]⟩] 59) := ⟨_, rfl⟩
      have SX13 : Step w5 X13 := by rw [hX13]; exact Step.of
      have HQ13 : Hid (Blk X13 w5.heap.size 59 [.int .i64 9, .slice none 0 0, .slice none 0 0, .int .i64 0, .int .i64 0, .bool false, .string ⟨#[]⟩]) := by rw [hX13]; exact Blk.new w5 _ 59
      rw [← hX13]
      clear hX13
      have SM : Hid (∀ (w'' : World), Fut X13 w'' → Calls Tryz.prog 21 #[.agg #[.int .i64 tU.s.id, .slice tU.As tU.s.cols.length tU.cs, .int .i64 tU.s.next, .int .i64 tU.sid, .slice tU.Af tU.fs.length tU.cf, .slice tU.Ar tU.rs.length tU.cr], .agg #[.int .i64 tA.s.id, .slice tA.As tA.s.cols.length tA.cs, .int .i64 tA.s.next, .int .i64 tA.sid, .slice tA.Af tA.fs.length tA.cf, .slice tA.Ar tA.rs.length tA.cr]] w'' fun e w3 => e = .returned (.bool true) ∧ Step w'' w3) := fun w'' hq => by
        haveI : Fut X9 w'' := Fut.tr (fut_ofG (fut X9 X13)) hq
        haveI : Fut X11 w'' := Fut.tr (fut_ofG (fut X11 X13)) hq
        exact (msame_any tU tA w'' HTIU.out HTIA.out).mono fun e w3 h => ⟨h.1.yes (by rw [HT2.out, HT1.out]; exact same_refl (tab2_may HYL.out)), h.2⟩
      have wk := (HWB.out.fut (w' := X13)).at0 k (.int .i64 e_) HWK.out
      have lwk := (HWB.out.fut (w' := X13)).lt
      rw [Nat.zero_add] at wk
      obtain ⟨r0, r1, r2, r3, r4, r5, r6⟩ := At.z7 (HR12.out.fut (w' := X13)).at0
      have lr := (HR12.out.fut (w' := X13)).lt
      obtain ⟨q0, q1, q2, q3, q4, q5, q6⟩ := At.z7 (HQ13.out.fut (w' := X13)).at0
      have lq := (HQ13.out.fut (w' := X13)).lt
      obtain ⟨u0, u1, u2, u3, u4, u5⟩ := At.z6 (HTU.out.fut (w' := X13)).at0
      have lu := (HTU.out.fut (w' := X13)).lt
      obtain ⟨t0, t1, t2, t3, t4, t5⟩ := At.z6 (HTA.out.fut (w' := X13)).at0
      have lt := (HTA.out.fut (w' := X13)).lt
      go_wp2_with (go_at_call 21; (with_reducible refine (SM.out _ inferInstance).mono ?_); rintro e w6 ⟨rfl, hs6⟩; clear r0 q0 r1 q1 r2 q2 r3 q3 r4 q4 r5 q5 r6 q6 u0 t0 u1 t1 u2 t2 u3 t3 u4 t4 u5 t5 lr lq lu lt; obtain ⟨r0, r1, r2, r3, r4, r5, r6⟩ := At.z7 (HR12.out.fut (w' := w6)).at0; have lr := (HR12.out.fut (w' := w6)).lt; obtain ⟨q0, q1, q2, q3, q4, q5, q6⟩ := At.z7 (HQ13.out.fut (w' := w6)).at0; have lq := (HQ13.out.fut (w' := w6)).lt; obtain ⟨u0, u1, u2, u3, u4, u5⟩ := At.z6 (HTU.out.fut (w' := w6)).at0; have lu := (HTU.out.fut (w' := w6)).lt; obtain ⟨t0, t1, t2, t3, t4, t5⟩ := At.z6 (HTA.out.fut (w' := w6)).at0; have lt := (HTA.out.fut (w' := w6)).lt)
      go_ret
      exact ⟨rfl, Step.of⟩
    · go_simp
      first | (have HZ9 := hide (Blk.new w3 [.int .i64 0, .slice none 0 0, .int .i64 0, .int .i64 0, .slice none 0 0, .slice none 0 0] 30)) | (have HZ9 := hide (Blk.new X9 [.int .i64 0, .slice none 0 0, .int .i64 0, .int .i64 0, .slice none 0 0, .slice none 0 0] 30))
      obtain ⟨z0, z1, z2, z3, z4, z5⟩ := At.z6 HZ9.out.at0
      have lz := HZ9.out.lt
      have fz := HZ9.out.free
      refine hK.out _ _ (by (try dsimp only); (first | exact ⟨hS1, hS2⟩ | exact ⟨Step.of, (bcell (fut _ _)).1⟩)) (fun hHeld => ?_)
      clear hK K
      refine wpAnyH_ready (rs := [5]) (by kernel_rfl) (by simp) ?_
      refine AllReadyH.cons (o := ⟨some 83, _, _, _, _, _⟩) rfl (fun K hK => ?_) AllReadyH.nil
      obtain ⟨hS1, hS2⟩ := hHeld
      go_simp
      (go_at_call 13; (with_reducible refine (AP.out _ inferInstance).mono ?_); rintro e w3 ⟨tU, rfl, ht2, ho2, hs3⟩; have HT2 := hide ht2; have HO2 := hide ho2; clear ht2 ho2; try (clear z0 z1 z2 z3 z4 z5 lz fz; obtain ⟨z0, z1, z2, z3, z4, z5⟩ := At.z6 (HZ9.out.fut (w' := w3)).at0; have lz := (HZ9.out.fut (w' := w3)).lt; have fz := (HZ9.out.fut (w' := w3)).free))
      refine hK.out _ _ (by (try dsimp only); (first | exact ⟨hS1, hS2⟩ | exact ⟨Step.of, (bcell (fut _ _)).1⟩)) (fun hHeld => ?_)
      clear hK K
      refine wT 6 77 (by assumption) ?_
      refine wT 7 84 (by assumption) ?_
      refine wT 8 85 (by assumption) ?_
      refine wpAnyH_ready (rs := [10]) (by kernel_rfl) (by simp) ?_
      refine AllReadyH.cons (o := ⟨none, _, _, _, _, _⟩) rfl (fun K hK => ?_) AllReadyH.nil
      go_simp
      refine hK.out _ _ (by (try dsimp only); (constructor; exact Step.of; intro b o h; exact (fut X9 _).cell (p := ⟨b, o, none⟩) h)) (fun hHeld => ?_)
      clear hK K
      (try simp only [Act.put, List.setIfInBounds_toArray, List.set_cons_zero, List.set_cons_succ])
      refine wT 11 15 (by assumption) ?_
      refine wpAnyH_done (by kernel_rfl) ?_ _
      go_upto_region 12 with fail
      obtain ⟨X11, hX11⟩ : ∃ x : World, x = set6D w3 X9.heap.size (.int .i64 tU.s.id) (.slice tU.As tU.s.cols.length tU.cs) (.int .i64 tU.s.next) (.int .i64 tU.sid) (.slice tU.Af tU.fs.length tU.cf) (.slice tU.Ar tU.rs.length tU.cr) := ⟨_, rfl⟩
      have HTU := hide (show Blk X11 X9.heap.size 30 [.int .i64 tU.s.id, .slice tU.As tU.s.cols.length tU.cs, .int .i64 tU.s.next, .int .i64 tU.sid, .slice tU.Af tU.fs.length tU.cf, .slice tU.Ar tU.rs.length tU.cr] by rw [hX11]; exact set6D_blk (HZ9.out.fut (w' := w3)) (.int .i64 tU.s.id) (.slice tU.As tU.s.cols.length tU.cs) (.int .i64 tU.s.next) (.int .i64 tU.sid) (.slice tU.Af tU.fs.length tU.cf) (.slice tU.Ar tU.rs.length tU.cr))
      have HO2F := hide (show TbOwnR X11 _ tU by rw [hX11]; exact HO2.out.set6 (HZ9.out.fut (w' := w3)) (.int .i64 tU.s.id) (.slice tU.As tU.s.cols.length tU.cs) (.int .i64 tU.s.next) (.int .i64 tU.sid) (.slice tU.Af tU.fs.length tU.cf) (.slice tU.Ar tU.rs.length tU.cr))
      have SX11 : Step X9 X11 := by rw [hX11]; exact ⟨set6D_below (fut X9 w3) (Nat.le_refl _) (.int .i64 tU.s.id) (.slice tU.As tU.s.cols.length tU.cs) (.int .i64 tU.s.next) (.int .i64 tU.sid) (.slice tU.Af tU.fs.length tU.cf) (.slice tU.Ar tU.rs.length tU.cr)⟩
      unfold set6D at hX11
      rw [← hX11]
      clear hX11 z0 z1 z2 z3 z4 z5 lz fz
      clear t0 t1 t2 t3 t4 t5 lt
      clear y0 y1 y2 y3 y4 y5 y6 y7 y8 y9 y10 y11 y12 y13 y14 y15
      have HTIU : Hid (TbIn X11 tU) := tb_in HO2F.out (by rw [HT2.out]; exact tab2_may HYL.out)
      have RA : Hid (∀ (w'' : World), Fut X11 w'' → Calls Tryz.prog 32 #[.agg #[.int .i64 tA.s.id, .slice tA.As tA.s.cols.length tA.cs, .int .i64 tA.s.next, .int .i64 tA.sid, .slice tA.Af tA.fs.length tA.cf, .slice tA.Ar tA.rs.length tA.cr], .agg #[.int .i64 9, .string ⟨#[]⟩, .slice none 0 0, .slice none 0 0, .slice none 0 0, .string ⟨#[98]⟩, .string ⟨#[]⟩, .int .i64 0, .int .i64 0, .int .i64 0, .bool false, .string ⟨#[]⟩, .slice none 0 0, .int .i64 0, .int .i64 0, .int .i64 2]] w'' fun e w3 => e = .returned (.agg #[.int .i64 0, .slice none 0 0, .slice none 0 0, .int .i64 0, .int .i64 0, .bool false, .string ⟨#[]⟩]) ∧ Step w'' w3) := fun w'' hq => by
        haveI : Fut X9 w'' := Fut.tr (fut_ofG (fut X9 X11)) hq
        have := readAgg (w0 := X9) (w1 := X9) tA ⟨9, ⟨#[]⟩, [], none, 0, [], none, 0, [], none, 0, ⟨#[98]⟩, ⟨#[]⟩, 0, no25, [], none, 0, 0, 0, 2⟩ w'' HTIA.out (opin0 _ 9 ⟨#[98]⟩ ⟨#[]⟩ 0 no25 (by show 0 ≤ _; decide) fine_no 2) (by show (2 : Int) ≠ 0; decide) HFI.out
        rw [HT1.out] at this
        rw [show readT _ (OpA.op ⟨9, ⟨#[]⟩, [], none, 0, [], none, 0, [], none, 0, ⟨#[98]⟩, ⟨#[]⟩, 0, no25, [], none, 0, 0, 0, 2⟩) = _ from sumB2 HYL.out] at this
        exact this
      obtain ⟨t0, t1, t2, t3, t4, t5⟩ := At.z6 (HTA.out.fut (w' := X11)).at0
      have lt := (HTA.out.fut (w' := X11)).lt
      go_upto_region 13 with (go_at_call 32; (with_reducible refine (RA.out _ inferInstance).mono ?_); rintro e w4 ⟨rfl, hs4⟩)
      clear t0 t1 t2 t3 t4 t5 lt
      obtain ⟨X12, hX12⟩ : ∃ x : World, x = w4.alloc (.cells #[.int .i64 0, .slice none 0 0, .slice none 0 0, .int .i64 0, .int .i64 0, .bool false, .string ⟨#[]⟩] 59) := ⟨_, rfl⟩
      have SX12 : Step w4 X12 := by rw [hX12]; exact Step.of
      have HR12 : Hid (Blk X12 w4.heap.size 59 [.int .i64 0, .slice none 0 0, .slice none 0 0, .int .i64 0, .int .i64 0, .bool false, .string ⟨#[]⟩]) := by rw [hX12]; exact Blk.new w4 _ 59
      rw [← hX12]
      clear hX12
      have RB : Hid (∀ (w'' : World), Fut X12 w'' → Calls Tryz.prog 32 #[.agg #[.int .i64 tA.s.id, .slice tA.As tA.s.cols.length tA.cs, .int .i64 tA.s.next, .int .i64 tA.sid, .slice tA.Af tA.fs.length tA.cf, .slice tA.Ar tA.rs.length tA.cr], .agg #[.int .i64 9, .string ⟨#[]⟩, .slice none 0 0, .slice none 0 0, .slice (some ⟨X4.heap.size + 1 + 1 + 1 + 1, 0, none⟩) 1 1, .string ⟨#[]⟩, .string ⟨#[]⟩, .int .i64 0, .int .i64 0, .int .i64 0, .bool false, .string ⟨#[]⟩, .slice none 0 0, .int .i64 0, .int .i64 0, .int .i64 0]] w'' fun e w3 => e = .returned (.agg #[.int .i64 9, .slice none 0 0, .slice none 0 0, .int .i64 0, .int .i64 0, .bool false, .string ⟨#[]⟩]) ∧ Step w'' w3) := fun w'' hq => by
        haveI : Fut X9 w'' := Fut.tr (fut_ofG (fut X9 X12)) hq
        exact readBad (w0 := X9) (w1 := X9) tA ⟨9, ⟨#[]⟩, [], none, 0, [], none, 0, [nonN], some ⟨X4.heap.size + 1 + 1 + 1 + 1, 0, none⟩, 1, ⟨#[]⟩, ⟨#[]⟩, 0, no25, [], none, 0, 0, 0, 0⟩ w'' HTIA.out (opinP 9 (pr_non (HN1.out.fut (w' := X9))) 0) (by rw [HT1.out]; exact tab2_may HYL.out) rfl non_pred
      obtain ⟨t0, t1, t2, t3, t4, t5⟩ := At.z6 (HTA.out.fut (w' := X12)).at0
      have lt := (HTA.out.fut (w' := X12)).lt
      have q0 := At.z1 (HP1.out.fut (w' := X12)).at0
      have lq := (HP1.out.fut (w' := X12)).lt
      go_upto_region 14 with (go_at_call 32; (with_reducible refine (RB.out _ inferInstance).mono ?_); rintro e w5 ⟨rfl, hs5⟩)
      clear t0 t1 t2 t3 t4 t5 lt
      clear q0 lq
      obtain ⟨X13, hX13⟩ : ∃ x : World, x = w5.alloc (.cells #[.int .i64 9, .slice none 0 0, .slice none 0 0, .int .i64 0, .int .i64 0, .bool false, .string ⟨#[]⟩] 59) := ⟨_, rfl⟩
      have SX13 : Step w5 X13 := by rw [hX13]; exact Step.of
      have HQ13 : Hid (Blk X13 w5.heap.size 59 [.int .i64 9, .slice none 0 0, .slice none 0 0, .int .i64 0, .int .i64 0, .bool false, .string ⟨#[]⟩]) := by rw [hX13]; exact Blk.new w5 _ 59
      rw [← hX13]
      clear hX13
      have SM : Hid (∀ (w'' : World), Fut X13 w'' → Calls Tryz.prog 21 #[.agg #[.int .i64 tU.s.id, .slice tU.As tU.s.cols.length tU.cs, .int .i64 tU.s.next, .int .i64 tU.sid, .slice tU.Af tU.fs.length tU.cf, .slice tU.Ar tU.rs.length tU.cr], .agg #[.int .i64 tA.s.id, .slice tA.As tA.s.cols.length tA.cs, .int .i64 tA.s.next, .int .i64 tA.sid, .slice tA.Af tA.fs.length tA.cf, .slice tA.Ar tA.rs.length tA.cr]] w'' fun e w3 => e = .returned (.bool true) ∧ Step w'' w3) := fun w'' hq => by
        haveI : Fut X9 w'' := Fut.tr (fut_ofG (fut X9 X13)) hq
        haveI : Fut X11 w'' := Fut.tr (fut_ofG (fut X11 X13)) hq
        exact (msame_any tU tA w'' HTIU.out HTIA.out).mono fun e w3 h => ⟨h.1.yes (by rw [HT2.out, HT1.out]; exact same_refl (tab2_may HYL.out)), h.2⟩
      have wk := (HWB.out.fut (w' := X13)).at0 k (.int .i64 e_) HWK.out
      have lwk := (HWB.out.fut (w' := X13)).lt
      rw [Nat.zero_add] at wk
      obtain ⟨r0, r1, r2, r3, r4, r5, r6⟩ := At.z7 (HR12.out.fut (w' := X13)).at0
      have lr := (HR12.out.fut (w' := X13)).lt
      obtain ⟨q0, q1, q2, q3, q4, q5, q6⟩ := At.z7 (HQ13.out.fut (w' := X13)).at0
      have lq := (HQ13.out.fut (w' := X13)).lt
      obtain ⟨u0, u1, u2, u3, u4, u5⟩ := At.z6 (HTU.out.fut (w' := X13)).at0
      have lu := (HTU.out.fut (w' := X13)).lt
      obtain ⟨t0, t1, t2, t3, t4, t5⟩ := At.z6 (HTA.out.fut (w' := X13)).at0
      have lt := (HTA.out.fut (w' := X13)).lt
      go_wp2_with (go_at_call 21; (with_reducible refine (SM.out _ inferInstance).mono ?_); rintro e w6 ⟨rfl, hs6⟩; clear r0 q0 r1 q1 r2 q2 r3 q3 r4 q4 r5 q5 r6 q6 u0 t0 u1 t1 u2 t2 u3 t3 u4 t4 u5 t5 lr lq lu lt; obtain ⟨r0, r1, r2, r3, r4, r5, r6⟩ := At.z7 (HR12.out.fut (w' := w6)).at0; have lr := (HR12.out.fut (w' := w6)).lt; obtain ⟨q0, q1, q2, q3, q4, q5, q6⟩ := At.z7 (HQ13.out.fut (w' := w6)).at0; have lq := (HQ13.out.fut (w' := w6)).lt; obtain ⟨u0, u1, u2, u3, u4, u5⟩ := At.z6 (HTU.out.fut (w' := w6)).at0; have lu := (HTU.out.fut (w' := w6)).lt; obtain ⟨t0, t1, t2, t3, t4, t5⟩ := At.z6 (HTA.out.fut (w' := w6)).at0; have lt := (HTA.out.fut (w' := w6)).lt)
      go_ret
      exact ⟨rfl, Step.of⟩
end Go.Proofs.YtnphokhehacfnaaGreatDoor

