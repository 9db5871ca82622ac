/-
  What every program answers: the law's own example of rows that are chosen and put in order.
-/
import Derived.Test.YtafgfehjdbomfaaDoorHs
import Derived.Test.YtafgfehjdbomfaaDoorGe
import Derived.Test.YtafgfehjdbomfaaDoorGa
import Derived.Test.YtafgfehjdbomfaaDoorGb
import Derived.Test.YtafgfehjdbomfaaDoorLr
import Derived.Test.YtafgfehjdbomfaaDoorPx
namespace Go.Proofs.YtafgfehjdbomfaaDoor
open Go.RowKit

theorem SlAt.of_blkK {w : World} {g size : Nat} {t : TypeId} {l : List (List Value)} {cs : List Value} (h : Blk w g t cs) (he : cs = l.flatten) (hf : ∀ x ∈ l, x.length = size) : SlAt w w.heap.size size (some ⟨g, 0, none⟩) l := by
  subst he
  exact SlAt.of_at h.at0 h.lt hf
def kn1 : Nod := ⟨1, ⟨#[97]⟩, 0, ⟨1, 1, false, ⟨#[]⟩⟩, 0, 0⟩
def kv (k : Int) : Val := ⟨1, k, false, ⟨#[]⟩⟩
theorem kw_1 : selR [kn1] sa1 [[kv 2], [kv 1]] = ([1], 0) := by kernel_rfl
theorem kw_2 : takeR [[kv 2], [kv 1]] [1, 1] = ([[kv 1], [kv 1]], 0) := by kernel_rfl
theorem kw_3 : takeR [[kv 2], [kv 1]] [2] = ([], 1600) := by kernel_rfl
theorem kw_4 : withoutR 3 [1] = ([0, 2], 0) := by kernel_rfl
/-- Two rows of one value each. -/
theorem rows_two {w : World} {a b g : Nat} {x y : Int} (ha : Blk w a 57 [.int .i64 1, .int .i64 x, .bool false, .string ⟨#[]⟩]) (hb : Blk w b 57 [.int .i64 1, .int .i64 y, .bool false, .string ⟨#[]⟩]) (hr : Blk w g 54 [.slice (some ⟨a, 0, none⟩) 1 1, .slice (some ⟨b, 0, none⟩) 1 1]) :
    RowsIn w [⟨some ⟨a, 0, none⟩, 1, [kv x]⟩, ⟨some ⟨b, 0, none⟩, 1, [kv y]⟩] (some ⟨g, 0, none⟩) 2 := by
  refine ⟨Nat.le_refl _, (by decide : 2 ≤ 5864062014800), by decide, SlAt.of_blkK hr rfl (rows_fit _).len, fun r h => ?_⟩
  simp only [List.mem_cons, List.not_mem_nil, or_false] at h
  rcases h with rfl | rfl
  · exact ⟨Nat.le_refl _, (by decide : 1 ≤ 3518437208780), (by decide : 1 ≤ 9223372036854775807), SlAt.of_blkK ha rfl (vals_fit _).len, fun v hv => by simp [kv] at hv; subst hv; exact (by decide : (0 : Nat) ≤ 9223372036854775807)⟩
  · exact ⟨Nat.le_refl _, (by decide : 1 ≤ 3518437208780), (by decide : 1 ≤ 9223372036854775807), SlAt.of_blkK hb rfl (vals_fit _).len, fun v hv => by simp [kv] at hv; subst hv; exact (by decide : (0 : Nat) ≤ 9223372036854775807)⟩
theorem kv_sorted {os : List RowA} (ha : Asc lessL (os.map RowA.vs)) (hp : (os.map RowA.vs).Perm [cleanL [kv 2], cleanL [kv 1]]) : os.map RowA.vs = [[kv 1], [kv 2]] := by
  have h2 : [cleanL [kv 2], cleanL [kv 1]] = [[kv 2], [kv 1]] := by kernel_rfl
  rw [h2] at hp
  have h3 : Asc lessL [[kv 1], [kv 2]] := by
    unfold Asc
    refine List.pairwise_cons.2 ⟨fun y hy => ?_, List.pairwise_singleton _ _⟩
    simp at hy
    subst hy
    kernel_rfl
  refine (sorted_one h3 ha ((List.Perm.swap _ _ _).trans hp.symm) fun x hx => ?_).symm
  simp only [List.mem_cons, List.not_mem_nil, or_false] at hx
  rcases hx with rfl | rfl <;> (show _ = _; kernel_rfl)

set_option maxRecDepth 100000 in
set_option maxHeartbeats 8000000 in
theorem awake16_any (w : World) : Calls Tryd.prog 23 #[] w fun e w' => e = .returned (.bool true) ∧ Step w w' := by
  have HN1 := hide (SlAt.strs1 (w := w) rfl ⟨#[97]⟩)
  have HN2 := hide (SlAt.ints1 (w := w.alloc (.cells #[.string ⟨#[97]⟩] 9)) (b := w.heap.size + 1) (by simp) 1)
  have hc := fun w' [Fut (w.alloc (.cells #[.string ⟨#[97]⟩] 9)) w'] [Fut ((w.alloc (.cells #[.string ⟨#[97]⟩] 9)).alloc (.cells #[.int .i64 1] 3)) w'] => qnew [⟨#[97]⟩] [1] (some ⟨w.heap.size, 0, none⟩) (some ⟨w.heap.size + 1, 0, none⟩) 1 1 w' HN1.out HN2.out (by decide) (by intro n hn; simp at hn; rw [hn]; decide)
  rw [new_a] at hc
  have HC := hide hc; clear hc
  go_enter Tryd.func23, Tryd.ntmps23
  go_wp2_with fail
  refine (HC.out _).mono ?_
  intro e w2 hr
  obtain ⟨A2, v2, rfl, hi2, ho2, hs2⟩ := hr
  clear HC HN1 HN2 ho2
  go_upto_region 3 with (fail)
  obtain ⟨W, hW⟩ : ∃ W, W = ((((w2.alloc (.cells #[.int .i64 sa1.id, .slice A2 sa1.cols.length v2, .int .i64 sa1.next] 27)).alloc (.cells #[.int .i64 1, .int .i64 2, .bool false, .string ⟨#[]⟩] 57)).alloc (.cells #[.int .i64 1, .int .i64 1, .bool false, .string ⟨#[]⟩] 57)).alloc (.cells #[.slice (some ⟨w2.heap.size + 1, 0, none⟩) 1 1, .slice (some ⟨w2.heap.size + 1 + 1, 0, none⟩) 1 1] 54)) := ⟨_, rfl⟩
  have SW : Step w2 W := by rw [hW]; exact Step.of
  have HSB : Hid (Blk W w2.heap.size 27 [.int .i64 sa1.id, .slice A2 sa1.cols.length v2, .int .i64 sa1.next]) := by rw [hW]; exact (((Blk.new w2 [.int .i64 sa1.id, .slice A2 sa1.cols.length v2, .int .i64 sa1.next] 27).alloc _).alloc _).alloc _
  have HV2 : Hid (Blk W (w2.heap.size + 1) 57 [.int .i64 1, .int .i64 2, .bool false, .string ⟨#[]⟩]) := by rw [hW]; exact ((Blk.new_at (by simp) [.int .i64 1, .int .i64 2, .bool false, .string ⟨#[]⟩] 57).alloc _).alloc _
  have HV1 : Hid (Blk W (w2.heap.size + 1 + 1) 57 [.int .i64 1, .int .i64 1, .bool false, .string ⟨#[]⟩]) := by rw [hW]; exact (Blk.new_at (by simp) [.int .i64 1, .int .i64 1, .bool false, .string ⟨#[]⟩] 57).alloc _
  have HRB : Hid (Blk W (w2.heap.size + 1 + 1 + 1) 54 [.slice (some ⟨w2.heap.size + 1, 0, none⟩) 1 1, .slice (some ⟨w2.heap.size + 1 + 1, 0, none⟩) 1 1]) := by rw [hW]; exact Blk.new_at (by simp) [.slice (some ⟨w2.heap.size + 1, 0, none⟩) 1 1, .slice (some ⟨w2.heap.size + 1 + 1, 0, none⟩) 1 1] 54
  have HRI := hide (rows_two HV2.out HV1.out HRB.out)
  have HSI : Hid (SchIn w2 sa1 A2 v2) := hi2
  have hsz : W.heap.size = w2.heap.size + 4 := by rw [hW]; simp
  have HSZ := hide hsz
  clear hi2
  rw [← hW]
  clear hW
  have r1 : W.cell? ⟨w2.heap.size + 1 + 1 + 1, 1, none⟩ = some (.slice (some ⟨w2.heap.size + 1 + 1, 0, none⟩) 1 1) := by simpa using HRB.out.at0 1 _ rfl
  obtain ⟨p0, p1, p2, p3⟩ := At.z4 HV1.out.at0
  obtain ⟨q0, q1, q2⟩ := At.z3 HSB.out.at0
  have lr : w2.heap.size + 1 + 1 + 1 < W.heap.size := by omega
  have lp : w2.heap.size + 1 + 1 < W.heap.size := by omega
  have lq : w2.heap.size < W.heap.size := by omega
  clear hsz
  have HPI := hide (PrIn.new (w := W) (b := W.heap.size) rfl (l := [kn1]) (cs := [.int .i64 1, .string ⟨#[97]⟩, .int .i64 0, .int .i64 1, .int .i64 1, .bool false, .string ⟨#[]⟩, .int .i64 0, .int .i64 0]) rfl (n := 1) (cap := 1) rfl (Nat.le_refl _) (by decide) (by decide))
  have t1 := fun w' [Fut W w'] [Fut w2 w'] [Fut (W.alloc (.cells #[.int .i64 1, .string ⟨#[97]⟩, .int .i64 0, .int .i64 1, .int .i64 1, .bool false, .string ⟨#[]⟩, .int .i64 0, .int .i64 0] 59)) w'] => pselRows_any [kn1] (some ⟨W.heap.size, 0, none⟩) 1 sa1 A2 v2 [⟨some ⟨w2.heap.size + 1, 0, none⟩, 1, [kv 2]⟩, ⟨some ⟨w2.heap.size + 1 + 1, 0, none⟩, 1, [kv 1]⟩] (some ⟨w2.heap.size + 1 + 1 + 1, 0, none⟩) 2 w' HPI.out HSI.out HRI.out
  simp only [List.map_cons, List.map_nil, kw_1, List.length_cons, List.length_nil, Nat.zero_add, Nat.reduceAdd] at t1
  unfold Sch.val at t1
  have T1 := hide t1; clear t1
  refine wp_region_held_drew (S := (fun w' => Step W w' ∧ (∀ b o, b < W.heap.size → w'.cell? ⟨b, o, none⟩ = W.cell? ⟨b, o, none⟩))) (by kernel_rfl) (by (try dsimp only); (first | exact ⟨hS1, hS2⟩ | exact ⟨Step.of, (bcell (fut _ _)).1⟩)) (fun hHeld => ?_)
  refine wpAnyH_take (i := 0) (oi := ⟨some 27, _, _, _, _, _⟩) (v := ?_) rfl (by kernel_rfl) (by kernel_rfl) (by kernel_rfl) (fun _ _ _ h => h) (Or.inl ⟨by rfl, ?_⟩) (by assumption) ?_
  rotate_left
  · ((intro w hSw); (try dsimp only at hSw); go_simp; (try with_reducible rfl))
  (try simp only [Act.put, List.setIfInBounds_toArray, List.set_cons_zero, List.set_cons_succ])
  refine wpAnyH_take (i := 9) (oi := ⟨some 36, _, _, _, _, _⟩) (v := ?_) rfl (by kernel_rfl) (by kernel_rfl) (by kernel_rfl) (fun _ _ _ h => h) (Or.inl ⟨by rfl, ?_⟩) (by assumption) ?_
  rotate_left
  · ((intro w hSw); (try dsimp only at hSw); go_simp; (try with_reducible rfl))
  (try simp only [Act.put, List.setIfInBounds_toArray, List.set_cons_zero, List.set_cons_succ])
  refine wpAnyH_take (i := 10) (oi := ⟨some 37, _, _, _, _, _⟩) (v := ?_) rfl (by kernel_rfl) (by kernel_rfl) (by kernel_rfl) (fun _ _ _ h => h) (Or.inl ⟨by rfl, ?_⟩) (by assumption) ?_
  rotate_left
  · ((intro w hSw); (try dsimp only at hSw); go_simp; (try with_reducible rfl))
  (try simp only [Act.put, List.setIfInBounds_toArray, List.set_cons_zero, List.set_cons_succ])
  refine wpAnyH_take (i := 1) (oi := ⟨some 28, _, _, _, _, _⟩) (v := ?_) rfl (by kernel_rfl) (by kernel_rfl) (by kernel_rfl) (fun _ _ _ h => h) (Or.inl ⟨by rfl, ?_⟩) (by assumption) ?_
  rotate_left
  · ((intro w hSw); (try dsimp only at hSw); go_simp; (try with_reducible rfl))
  (try simp only [Act.put, List.setIfInBounds_toArray, List.set_cons_zero, List.set_cons_succ])
  refine wpAnyH_take (i := 2) (oi := ⟨some 29, _, _, _, _, _⟩) (v := ?_) rfl (by kernel_rfl) (by kernel_rfl) (by kernel_rfl) (fun _ _ _ h => h) (Or.inl ⟨by rfl, ?_⟩) (by assumption) ?_
  rotate_left
  · ((intro w hSw); (try dsimp only at hSw); go_simp; (try with_reducible rfl))
  (try simp only [Act.put, List.setIfInBounds_toArray, List.set_cons_zero, List.set_cons_succ])
  refine wpAnyH_take (i := 3) (oi := ⟨some 30, _, _, _, _, _⟩) (v := ?_) rfl (by kernel_rfl) (by kernel_rfl) (by kernel_rfl) (fun _ _ _ h => h) (Or.inl ⟨by rfl, ?_⟩) (by assumption) ?_
  rotate_left
  · ((intro w hSw); (try dsimp only at hSw); go_simp; (try with_reducible rfl))
  (try simp only [Act.put, List.setIfInBounds_toArray, List.set_cons_zero, List.set_cons_succ])
  refine wpAnyH_take (i := 4) (oi := ⟨some 31, _, _, _, _, _⟩) (v := ?_) rfl (by kernel_rfl) (by kernel_rfl) (by kernel_rfl) (fun _ _ _ h => h) (Or.inl ⟨by rfl, ?_⟩) (by assumption) ?_
  rotate_left
  · ((intro w hSw); (try dsimp only at hSw); go_simp; (try with_reducible rfl))
  (try simp only [Act.put, List.setIfInBounds_toArray, List.set_cons_zero, List.set_cons_succ])
  refine wpAnyH_take (i := 5) (oi := ⟨some 32, _, _, _, _, _⟩) (v := ?_) rfl (by kernel_rfl) (by kernel_rfl) (by kernel_rfl) (fun _ _ _ h => h) (Or.inl ⟨by rfl, ?_⟩) (by assumption) ?_
  rotate_left
  · ((intro w hSw); (try dsimp only at hSw); go_simp; (try with_reducible rfl))
  (try simp only [Act.put, List.setIfInBounds_toArray, List.set_cons_zero, List.set_cons_succ])
  refine wpAnyH_take (i := 6) (oi := ⟨some 33, _, _, _, _, _⟩) (v := ?_) rfl (by kernel_rfl) (by kernel_rfl) (by kernel_rfl) (fun _ _ _ h => h) (Or.inl ⟨by rfl, ?_⟩) (by assumption) ?_
  rotate_left
  · ((intro w hSw); (try dsimp only at hSw); go_simp; (try with_reducible rfl))
  (try simp only [Act.put, List.setIfInBounds_toArray, List.set_cons_zero, List.set_cons_succ])
  refine wpAnyH_ready (rs := [7]) (by kernel_rfl) (by simp) ?_
  refine AllReadyH.cons (o := ⟨some 34, _, _, _, _, _⟩) rfl (fun K hK => ?_) AllReadyH.nil
  go_simp
  refine hK.out _ _ (by (try dsimp only); (first | exact ⟨hS1, hS2⟩ | exact ⟨Step.of, (bcell (fut _ _)).1⟩)) (fun hHeld => ?_)
  clear hK K
  (try simp only [Act.put, List.setIfInBounds_toArray, List.set_cons_zero, List.set_cons_succ])
  refine wpAnyH_take (i := 8) (oi := ⟨some 35, _, _, _, _, _⟩) (v := ?_) rfl (by kernel_rfl) (by kernel_rfl) (by kernel_rfl) (fun _ _ _ h => h) (Or.inl ⟨by rfl, ?_⟩) (by assumption) ?_
  rotate_left
  · ((intro w hSw); (try dsimp only at hSw); go_simp; (try with_reducible rfl))
  (try simp only [Act.put, List.setIfInBounds_toArray, List.set_cons_zero, List.set_cons_succ])
  refine wpAnyH_ready (rs := [11]) (by kernel_rfl) (by simp) ?_
  refine AllReadyH.cons (o := ⟨some 38, _, _, _, _, _⟩) rfl (fun K hK => ?_) AllReadyH.nil
  obtain ⟨hS1, hS2⟩ := hHeld
  go_simp
  (go_at_call 11; (with_reducible refine (T1.out _).mono ?_); rintro e w3 ⟨A3, c3, rfl, ho3, hs3⟩; have HO3 := hide ho3; clear ho3)
  refine hK.out _ _ (by (try dsimp only); (first | exact ⟨hS1, hS2⟩ | exact ⟨Step.of, (bcell (fut _ _)).1⟩)) (fun hHeld => ?_)
  clear hK K
  (try simp only [Act.put, List.setIfInBounds_toArray, List.set_cons_zero, List.set_cons_succ])
  refine wpAnyH_take (i := 12) (oi := ⟨some 26, _, _, _, _, _⟩) (v := ?_) rfl (by kernel_rfl) (by kernel_rfl) (by kernel_rfl) (fun _ _ _ h => h) (Or.inl ⟨by rfl, ?_⟩) (by assumption) ?_
  rotate_left
  · ((intro w hSw); (try dsimp only at hSw); go_simp; (try with_reducible rfl))
  (try simp only [Act.put, List.setIfInBounds_toArray, List.set_cons_zero, List.set_cons_succ])
  refine wpAnyH_take (i := 13) (oi := ⟨some 39, _, _, _, _, _⟩) (v := ?_) rfl (by kernel_rfl) (by kernel_rfl) (by kernel_rfl) (fun _ _ _ h => h) (Or.inl ⟨by rfl, ?_⟩) (by assumption) ?_
  rotate_left
  · ((intro w hSw); (try dsimp only at hSw); go_simp; (try with_reducible rfl))
  (try simp only [Act.put, List.setIfInBounds_toArray, List.set_cons_zero, List.set_cons_succ])
  refine wpAnyH_take (i := 14) (oi := ⟨some 40, _, _, _, _, _⟩) (v := ?_) rfl (by kernel_rfl) (by kernel_rfl) (by kernel_rfl) (fun _ _ _ h => h) (Or.inl ⟨by rfl, ?_⟩) (by assumption) ?_
  rotate_left
  · ((intro w hSw); (try dsimp only at hSw); go_simp; (try with_reducible rfl))
  (try simp only [Act.put, List.setIfInBounds_toArray, List.set_cons_zero, List.set_cons_succ])
  refine wpAnyH_take (i := 15) (oi := ⟨some 4, _, _, _, _, _⟩) (v := ?_) rfl (by kernel_rfl) (by kernel_rfl) (by kernel_rfl) (fun _ _ _ h => h) (Or.inl ⟨by rfl, ?_⟩) (by assumption) ?_
  rotate_left
  · ((intro w hSw); (try dsimp only at hSw); go_simp; (try with_reducible rfl))
  (try simp only [Act.put, List.setIfInBounds_toArray, List.set_cons_zero, List.set_cons_succ])
  refine wpAnyH_take (i := 16) (oi := ⟨some 5, _, _, _, _, _⟩) (v := ?_) rfl (by kernel_rfl) (by kernel_rfl) (by kernel_rfl) (fun _ _ _ h => h) (Or.inl ⟨by rfl, ?_⟩) (by assumption) ?_
  rotate_left
  · ((intro w hSw); (try dsimp only at hSw); go_simp; (try with_reducible rfl))
  (try simp only [Act.put, List.setIfInBounds_toArray, List.set_cons_zero, List.set_cons_succ])
  refine wpAnyH_done (by kernel_rfl) ?_ _
  clear hHeld r1 p0 p1 p2 p3 q0 q1 q2 lr lp lq T1
  have HAT := hide (HO3.out.sl (int_fit [1]).len)
  have hz3 := (fut W w3).size
  have HI4 := hide (SlAt.ints2 (w := w3) rfl 1 1)
  have t2 := fun w' [Fut W w'] [Fut (w3.alloc (.cells #[.int .i64 1, .int .i64 1] 3)) w'] => ptake_any [⟨some ⟨w2.heap.size + 1, 0, none⟩, 1, [kv 2]⟩, ⟨some ⟨w2.heap.size + 1 + 1, 0, none⟩, 1, [kv 1]⟩] (some ⟨w2.heap.size + 1 + 1 + 1, 0, none⟩) 2 [1, 1] (some ⟨w3.heap.size, 0, none⟩) 2 w' HRI.out HI4.out (by decide)
  simp only [List.map_cons, List.map_nil, kw_2, List.length_cons, List.length_nil, Nat.zero_add, Nat.reduceAdd] at t2
  have T2 : Hid (∀ w' [Fut W w'] [Fut (w3.alloc (.cells #[.int .i64 1, .int .i64 1] 3)) w'], Calls Tryd.prog 13 #[.slice (some ⟨w2.heap.size + 1 + 1 + 1, 0, none⟩) 2 2, .slice (some ⟨w3.heap.size, 0, none⟩) 2 2] w' fun e w'' => ∃ (A' : Option Addr) (c' : Nat), e = .returned (.tuple #[.slice A' 2 c', .int .i64 0]) ∧ Step w' w'') := by
    intro w' _ _
    refine (t2 w').mono ?_
    rintro e w'' ⟨A', c', os, h1, rfl, _, h4⟩
    have h5 := congrArg List.length h1
    simp at h5
    exact ⟨A', c', by rw [h5], h4⟩
  clear t2
  go_wp2_with fail
  refine (T2.out _).mono ?_
  rintro e w4 ⟨A4, c4, rfl, hs4⟩
  clear T2 HI4
  have hz4 := hs4.size
  have HI5 := hide (SlAt.ints1 (w := w4) rfl 1)
  have t3 := fun w' [Fut (w4.alloc (.cells #[.int .i64 1] 3)) w'] => pwithout_any 3 [1] (some ⟨w4.heap.size, 0, none⟩) 1 w' HI5.out (by decide)
  simp only [kw_4, List.length_cons, List.length_nil, Nat.zero_add, Nat.reduceAdd] at t3
  have T3 := hide t3; clear t3
  go_wp2_with fail
  refine (T3.out _).mono ?_
  rintro e w5 ⟨A5, c5, rfl, ho5, hs5⟩
  have HO5 := hide (ho5.sl (int_fit [0, 2]).len)
  clear T3 HI5 ho5
  have hz5 := hs5.size
  have HI6 := hide (SlAt.ints1 (w := w5) rfl 2)
  have t4 := fun w' [Fut W w'] [Fut (w5.alloc (.cells #[.int .i64 2] 3)) w'] => ptake_any [⟨some ⟨w2.heap.size + 1, 0, none⟩, 1, [kv 2]⟩, ⟨some ⟨w2.heap.size + 1 + 1, 0, none⟩, 1, [kv 1]⟩] (some ⟨w2.heap.size + 1 + 1 + 1, 0, none⟩) 2 [2] (some ⟨w5.heap.size, 0, none⟩) 1 w' HRI.out HI6.out (by decide)
  simp only [List.map_cons, List.map_nil, kw_3, List.length_cons, List.length_nil, Nat.zero_add, Nat.reduceAdd] at t4
  have T4 := hide t4; clear t4
  go_wp2_with fail
  refine (T4.out _).mono ?_
  rintro e w6 ⟨A6, c6, os6, _, rfl, _, hs6⟩
  clear T4 HI6
  have hz6 := hs6.size
  have t5 := fun w' [Fut W w'] => psort_any [⟨some ⟨w2.heap.size + 1, 0, none⟩, 1, [kv 2]⟩, ⟨some ⟨w2.heap.size + 1 + 1, 0, none⟩, 1, [kv 1]⟩] (some ⟨w2.heap.size + 1 + 1 + 1, 0, none⟩) 2 w' HRI.out
  have T5 : Hid (∀ w' [Fut W w'], Calls Tryd.prog 24 #[.slice (some ⟨w2.heap.size + 1 + 1 + 1, 0, none⟩) 2 2] w' fun e w'' => ∃ (a b : Nat) (c' : Nat) (c1 : Nat), e = .returned (.slice (some ⟨a, 0, none⟩) 2 c') ∧ a < w''.heap.size ∧ b < w''.heap.size ∧ w''.cell? ⟨a, 0, none⟩ = some (.slice (some ⟨b, 0, none⟩) 1 c1) ∧ w''.cell? ⟨b, 1, none⟩ = some (.int .i64 1) ∧ Step w' w'') := by
    intro w' _
    refine (t5 w').mono ?_
    rintro e w'' ⟨A', c', os, rfl, hl, ha, hp, ho, hs⟩
    have h1 := kv_sorted ha hp
    have hri := OwnR.rin (rs := os) (by rw [hl]; exact ho) (by rw [hl]; exact (by decide : 2 ≤ 5864062014800)) (by
      rw [h1]
      intro vs hv
      simp only [List.mem_cons, List.not_mem_nil, or_false] at hv
      rcases hv with rfl | rfl <;> exact ⟨by simp, by intro v hv; simp at hv; subst hv; decide⟩)
    obtain ⟨a, o1, rfl, hb, r, hr, hrin, hcell⟩ := hri.row (w' := w'') inferInstance (k := 0) (by rw [hl]; exact Nat.zero_lt_succ _)
    have hrv : r.vs = [kv 1] := by
      have h3 : (os.map RowA.vs)[0]? = some r.vs := by simp [hr]
      rw [h1] at h3
      simpa using h3.symm
    obtain ⟨b, o2, hA, hb2, hc2⟩ := hrin.at_.elem (w' := w'') inferInstance (k := 0) (by rw [hrv]; decide)
    obtain ⟨rfl⟩ : o1 = 0 := by
      rcases ho.out.2 with ⟨h, _⟩ | ⟨g, cap', cur, h, _⟩
      · cases h
      · injection h with h; injection h with h; injection h
    have := (ho.rows r (List.mem_of_getElem? hr)).2
    obtain ⟨rfl⟩ : o2 = 0 := by
      rw [hA] at this
      rcases this with ⟨h, _⟩ | ⟨g, cap', cur, h, _⟩
      · cases h
      · injection h with h; injection h with h; injection h
    refine ⟨a, b, c', r.cap, rfl, hb, hb2, ?_, ?_, hs⟩
    · rw [hA, hrv] at hcell; simpa using hcell
    · have := hc2 0 (kv 1).cells (by rw [hrv]; rfl) 1 (.int .i64 1) rfl
      simpa using this
  clear t5
  go_wp2_with fail
  refine (T5.out _).mono ?_
  rintro e w7 ⟨a7, b7, c7, d7, rfl, la7, lb7, z0, z1, hs7⟩
  have hz7 := hs7.size
  clear T5
  have S1 : Hid (∀ w' [Fut w3 w'] [Fut (w7.alloc (.cells #[.int .i64 1] 3)) w'], Calls Tryd.prog 17 #[.slice A3 1 c3, .slice (some ⟨w7.heap.size, 0, none⟩) 1 1] w' fun e w'' => e = .returned (.bool true) ∧ Step w' w'') := hide (fun w' _ _ => sameInts_any [1] A3 (some ⟨w7.heap.size, 0, none⟩) c3 1 w' HAT.out (SlAt.ints1 (w := w7) rfl 1) (by decide))
  have ZC := hide z0; have ZD := hide z1; have LA := hide la7; have LB := hide lb7
  clear z0 z1 la7 lb7
  go_wp2_with (first
    | (go_at_call 18; refine (numv_any _ _).mono ?_; rintro e w' ⟨rfl, rfl⟩)
    | ((with_reducible refine (S1.out _).mono ?_); rintro e w8 ⟨rfl, hs8⟩; have hz8 := hs8.size; have S2 : Hid (∀ w' [Fut w5 w'] [Fut (w8.alloc (.cells #[.int .i64 0, .int .i64 2] 3)) w'], Calls Tryd.prog 17 #[.slice A5 2 c5, .slice (some ⟨w8.heap.size, 0, none⟩) 2 2] w' fun e w'' => e = .returned (.bool true) ∧ Step w' w'') := hide (fun w' _ _ => sameInts_any [0, 2] A5 (some ⟨w8.heap.size, 0, none⟩) c5 2 w' HO5.out (SlAt.ints2 (w := w8) rfl 0 2) (by decide)))
    | ((with_reducible refine (S2.out _).mono ?_); rintro e w9 ⟨rfl, hs9⟩; have z0 := ((bcell (fut w7 w9)).1 a7 0 LA.out).trans ZC.out; have z1 := ((bcell (fut w7 w9)).1 b7 1 LB.out).trans ZD.out; have la := Nat.lt_of_lt_of_le LA.out (fut w7 w9).size; have lb := Nat.lt_of_lt_of_le LB.out (fut w7 w9).size))
  go_ret
  exact ⟨rfl, Step.of⟩
end Go.Proofs.YtafgfehjdbomfaaDoor
