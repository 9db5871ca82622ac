/-
  Texts put together: D1, D2, Fd, Pa, Trim, B.
-/
import Derived.Deep.RegionHeld3
import Derived.Deep.RegionLaw
import Derived.Deep.Cut
import Derived.Deep.CutBlock
import Derived.Shelf.Strings.SlTrimAscii
import Derived.Test.YtnphokhehacfnaaGreatDoorProg
import Derived.Test.YtnphokhehacfnaaGreatDoorCz00
import Derived.Test.YtnphokhehacfnaaGreatDoorCz01
import Derived.Test.YtnphokhehacfnaaGreatDoorCz02
namespace Go.Proofs.YtnphokhehacfnaaGreatDoor
open Go.RowKit

/-- A value's fields are those of the plain one. -/
def sameV (x y : Val) : Bool := x.kind == y.kind && x.i == y.i && x.b == y.b && x.s.toList == y.s.toList
def wholeB (kd : Int) (v : Val) : Bool := sameV v (clean v) && fitsB kd v
set_option maxRecDepth 100000 in
set_option maxHeartbeats 4000000 in
theorem whole_any (kd : Int) (v : Val) (w : World) (hs : v.s.size ≤ 9223372036854775807) :
    Calls Tryz.prog 56 #[.int .i64 kd, .agg #[.int .i64 v.kind, .int .i64 v.i, .bool v.b, .string v.s]] w fun e w' => e = .returned (.bool (wholeB kd v)) ∧ Step w w' := by
  have PV := hide (plain_ag v)
  have FV := hide (fun w' => fits_any kd v w' hs)
  obtain ⟨W1, hW1⟩ : ∃ x : World, x = w.alloc (.cells #[.int .i64 v.kind, .int .i64 v.i, .bool v.b, .string v.s] 36) := ⟨_, rfl⟩
  have HB1 : Hid (Blk W1 w.heap.size 36 [.int .i64 v.kind, .int .i64 v.i, .bool v.b, .string v.s]) := by rw [hW1]; exact Blk.new w _ 36
  have SW1 : Step w W1 := by rw [hW1]; exact Step.of
  have HK : Hid ((clean v).kind = kindV v) := clean_kind v
  by_cases e0 : v.kind = kindV v
  · have g0 : (v.kind = kindV v) = True := eq_true e0
    by_cases e1 : v.i = (clean v).i
    · have g1 : (v.i = (clean v).i) = True := eq_true e1
      by_cases e2 : v.b = (clean v).b
      · have g2 : (v.b = (clean v).b) = True := eq_true e2
        by_cases e3 : v.s.toList = (clean v).s.toList
        · have g3 : (v.s.toList = (clean v).s.toList) = True := eq_true e3
          have HR : Hid (wholeB kd v = fitsB kd v) := by show _ = _; rw [wholeB, sameV, HK.out, ← e0, ← e1, ← e2, ← e3]; simp
          clear e0 e1 e2 e3 HK
          go_enter Tryz.func56, Tryz.ntmps56
          go_upto_region 1 with fail
          rw [← hW1]
          clear hW1
          obtain ⟨x0, x1, x2, x3⟩ := At.z4 HB1.out.at0
          have lx := HB1.out.lt
          refine wp_region_held_drew (S := (fun w' => Step W1 w' ∧ (∀ b o, b < W1.heap.size → w'.cell? ⟨b, o, none⟩ = W1.cell? ⟨b, o, none⟩))) (by kernel_rfl) (by (try dsimp only); (first | exact ⟨hS1, hS2⟩ | exact ⟨Step.of, (bcell (fut _ _)).1⟩)) (fun hHeld => ?_)
          refine wT 0 5 (by assumption) ?_
          refine wT 1 6 (by assumption) ?_
          refine wpAnyH_ready (rs := [2]) (by kernel_rfl) (by simp) ?_
          refine AllReadyH.cons (o := ⟨some 7, _, _, _, _, _⟩) rfl (fun K hK => ?_) AllReadyH.nil
          obtain ⟨hS1, hS2⟩ := hHeld
          go_simp
          (go_at_call 109; (with_reducible refine (PV.out _).mono ?_); rintro e w5 ⟨rfl, hs5⟩)
          refine hK.out _ _ (by (try dsimp only); (first | exact ⟨hS1, hS2⟩ | exact ⟨Step.of, (bcell (fut _ _)).1⟩)) (fun hHeld => ?_)
          clear hK K
          (try simp only [Act.put, List.setIfInBounds_toArray, List.set_cons_zero, List.set_cons_succ])
          refine wT 3 8 (by assumption) ?_
          refine wT 4 9 (by assumption) ?_
          refine wT 5 10 (by assumption) ?_
          refine wT 6 11 (by assumption) ?_
          refine wpAnyH_ready (rs := [7]) (by kernel_rfl) (by simp) ?_
          refine AllReadyH.cons (o := ⟨some 12, _, _, _, _, _⟩) rfl (fun K hK => ?_) AllReadyH.nil
          obtain ⟨hS1, hS2⟩ := hHeld
          go_simp
          (go_at_call 110; (with_reducible refine (FV.out _).mono ?_); rintro e w6 ⟨rfl, hs6⟩)
          refine hK.out _ _ (by (try dsimp only); (first | exact ⟨hS1, hS2⟩ | exact ⟨Step.of, (bcell (fut _ _)).1⟩)) (fun hHeld => ?_)
          clear hK K
          (try simp only [Act.put, List.setIfInBounds_toArray, List.set_cons_zero, List.set_cons_succ])
          refine wT 8 13 (by assumption) ?_
          refine wT 9 4 (by assumption) ?_
          refine wpAnyH_done (by kernel_rfl) ?_ _
          go_wp2_with fail
          go_ret
          exact ⟨by rw [HR.out]; rfl, Step.of⟩
        · have g3 : (v.s.toList = (clean v).s.toList) = False := eq_false e3
          have HR : Hid (wholeB kd v = false) := by show _ = _; rw [wholeB, sameV, HK.out]; simp [e3]
          clear e0 e1 e2 e3 HK
          go_enter Tryz.func56, Tryz.ntmps56
          go_upto_region 1 with fail
          rw [← hW1]
          clear hW1
          obtain ⟨x0, x1, x2, x3⟩ := At.z4 HB1.out.at0
          have lx := HB1.out.lt
          refine wp_region_held_drew (S := (fun w' => Step W1 w' ∧ (∀ b o, b < W1.heap.size → w'.cell? ⟨b, o, none⟩ = W1.cell? ⟨b, o, none⟩))) (by kernel_rfl) (by (try dsimp only); (first | exact ⟨hS1, hS2⟩ | exact ⟨Step.of, (bcell (fut _ _)).1⟩)) (fun hHeld => ?_)
          refine wT 0 5 (by assumption) ?_
          refine wT 1 6 (by assumption) ?_
          refine wpAnyH_ready (rs := [2]) (by kernel_rfl) (by simp) ?_
          refine AllReadyH.cons (o := ⟨some 7, _, _, _, _, _⟩) rfl (fun K hK => ?_) AllReadyH.nil
          obtain ⟨hS1, hS2⟩ := hHeld
          go_simp
          (go_at_call 109; (with_reducible refine (PV.out _).mono ?_); rintro e w5 ⟨rfl, hs5⟩)
          refine hK.out _ _ (by (try dsimp only); (first | exact ⟨hS1, hS2⟩ | exact ⟨Step.of, (bcell (fut _ _)).1⟩)) (fun hHeld => ?_)
          clear hK K
          (try simp only [Act.put, List.setIfInBounds_toArray, List.set_cons_zero, List.set_cons_succ])
          refine wT 3 8 (by assumption) ?_
          refine wT 4 9 (by assumption) ?_
          refine wpAnyH_take (i := 5) (oi := ⟨some 10, _, _, _, _, _⟩) (v := undef) rfl (by kernel_rfl) (by kernel_rfl) (by kernel_rfl) (fun _ _ _ h => h) (Or.inr ⟨by rfl, rfl⟩) (by assumption) ?_
          (try simp only [Act.put, List.setIfInBounds_toArray, List.set_cons_zero, List.set_cons_succ])
          refine wpAnyH_take (i := 6) (oi := ⟨some 11, _, _, _, _, _⟩) (v := undef) rfl (by kernel_rfl) (by kernel_rfl) (by kernel_rfl) (fun _ _ _ h => h) (Or.inr ⟨by rfl, rfl⟩) (by assumption) ?_
          (try simp only [Act.put, List.setIfInBounds_toArray, List.set_cons_zero, List.set_cons_succ])
          refine wpAnyH_take (i := 7) (oi := ⟨some 12, _, _, _, _, _⟩) (v := undef) rfl (by kernel_rfl) (by kernel_rfl) (by kernel_rfl) (fun _ _ _ h => h) (Or.inr ⟨by rfl, rfl⟩) (by assumption) ?_
          (try simp only [Act.put, List.setIfInBounds_toArray, List.set_cons_zero, List.set_cons_succ])
          refine wT 8 13 (by assumption) ?_
          refine wT 9 4 (by assumption) ?_
          refine wpAnyH_done (by kernel_rfl) ?_ _
          go_wp2_with fail
          go_ret
          exact ⟨by rw [HR.out]; rfl, Step.of⟩
      · have g2 : (v.b = (clean v).b) = False := eq_false e2
        have HR : Hid (wholeB kd v = false) := by show _ = _; rw [wholeB, sameV, HK.out]; simp [e2]
        clear e0 e1 e2 HK
        go_enter Tryz.func56, Tryz.ntmps56
        go_upto_region 1 with fail
        rw [← hW1]
        clear hW1
        obtain ⟨x0, x1, x2, x3⟩ := At.z4 HB1.out.at0
        have lx := HB1.out.lt
        refine wp_region_held_drew (S := (fun w' => Step W1 w' ∧ (∀ b o, b < W1.heap.size → w'.cell? ⟨b, o, none⟩ = W1.cell? ⟨b, o, none⟩))) (by kernel_rfl) (by (try dsimp only); (first | exact ⟨hS1, hS2⟩ | exact ⟨Step.of, (bcell (fut _ _)).1⟩)) (fun hHeld => ?_)
        refine wT 0 5 (by assumption) ?_
        refine wT 1 6 (by assumption) ?_
        refine wpAnyH_ready (rs := [2]) (by kernel_rfl) (by simp) ?_
        refine AllReadyH.cons (o := ⟨some 7, _, _, _, _, _⟩) rfl (fun K hK => ?_) AllReadyH.nil
        obtain ⟨hS1, hS2⟩ := hHeld
        go_simp
        (go_at_call 109; (with_reducible refine (PV.out _).mono ?_); rintro e w5 ⟨rfl, hs5⟩)
        refine hK.out _ _ (by (try dsimp only); (first | exact ⟨hS1, hS2⟩ | exact ⟨Step.of, (bcell (fut _ _)).1⟩)) (fun hHeld => ?_)
        clear hK K
        (try simp only [Act.put, List.setIfInBounds_toArray, List.set_cons_zero, List.set_cons_succ])
        refine wT 3 8 (by assumption) ?_
        refine wT 4 9 (by assumption) ?_
        refine wpAnyH_take (i := 5) (oi := ⟨some 10, _, _, _, _, _⟩) (v := undef) rfl (by kernel_rfl) (by kernel_rfl) (by kernel_rfl) (fun _ _ _ h => h) (Or.inr ⟨by rfl, rfl⟩) (by assumption) ?_
        (try simp only [Act.put, List.setIfInBounds_toArray, List.set_cons_zero, List.set_cons_succ])
        refine wpAnyH_take (i := 6) (oi := ⟨some 11, _, _, _, _, _⟩) (v := undef) rfl (by kernel_rfl) (by kernel_rfl) (by kernel_rfl) (fun _ _ _ h => h) (Or.inr ⟨by rfl, rfl⟩) (by assumption) ?_
        (try simp only [Act.put, List.setIfInBounds_toArray, List.set_cons_zero, List.set_cons_succ])
        refine wpAnyH_take (i := 7) (oi := ⟨some 12, _, _, _, _, _⟩) (v := undef) rfl (by kernel_rfl) (by kernel_rfl) (by kernel_rfl) (fun _ _ _ h => h) (Or.inr ⟨by rfl, rfl⟩) (by assumption) ?_
        (try simp only [Act.put, List.setIfInBounds_toArray, List.set_cons_zero, List.set_cons_succ])
        refine wT 8 13 (by assumption) ?_
        refine wT 9 4 (by assumption) ?_
        refine wpAnyH_done (by kernel_rfl) ?_ _
        go_wp2_with fail
        go_ret
        exact ⟨by rw [HR.out]; rfl, Step.of⟩
    · have g1 : (v.i = (clean v).i) = False := eq_false e1
      have HR : Hid (wholeB kd v = false) := by show _ = _; rw [wholeB, sameV, HK.out]; simp [e1]
      clear e0 e1 HK
      go_enter Tryz.func56, Tryz.ntmps56
      go_upto_region 1 with fail
      rw [← hW1]
      clear hW1
      obtain ⟨x0, x1, x2, x3⟩ := At.z4 HB1.out.at0
      have lx := HB1.out.lt
      refine wp_region_held_drew (S := (fun w' => Step W1 w' ∧ (∀ b o, b < W1.heap.size → w'.cell? ⟨b, o, none⟩ = W1.cell? ⟨b, o, none⟩))) (by kernel_rfl) (by (try dsimp only); (first | exact ⟨hS1, hS2⟩ | exact ⟨Step.of, (bcell (fut _ _)).1⟩)) (fun hHeld => ?_)
      refine wT 0 5 (by assumption) ?_
      refine wT 1 6 (by assumption) ?_
      refine wpAnyH_ready (rs := [2]) (by kernel_rfl) (by simp) ?_
      refine AllReadyH.cons (o := ⟨some 7, _, _, _, _, _⟩) rfl (fun K hK => ?_) AllReadyH.nil
      obtain ⟨hS1, hS2⟩ := hHeld
      go_simp
      (go_at_call 109; (with_reducible refine (PV.out _).mono ?_); rintro e w5 ⟨rfl, hs5⟩)
      refine hK.out _ _ (by (try dsimp only); (first | exact ⟨hS1, hS2⟩ | exact ⟨Step.of, (bcell (fut _ _)).1⟩)) (fun hHeld => ?_)
      clear hK K
      (try simp only [Act.put, List.setIfInBounds_toArray, List.set_cons_zero, List.set_cons_succ])
      refine wT 3 8 (by assumption) ?_
      refine wT 4 9 (by assumption) ?_
      refine wpAnyH_take (i := 5) (oi := ⟨some 10, _, _, _, _, _⟩) (v := undef) rfl (by kernel_rfl) (by kernel_rfl) (by kernel_rfl) (fun _ _ _ h => h) (Or.inr ⟨by rfl, rfl⟩) (by assumption) ?_
      (try simp only [Act.put, List.setIfInBounds_toArray, List.set_cons_zero, List.set_cons_succ])
      refine wpAnyH_take (i := 6) (oi := ⟨some 11, _, _, _, _, _⟩) (v := undef) rfl (by kernel_rfl) (by kernel_rfl) (by kernel_rfl) (fun _ _ _ h => h) (Or.inr ⟨by rfl, rfl⟩) (by assumption) ?_
      (try simp only [Act.put, List.setIfInBounds_toArray, List.set_cons_zero, List.set_cons_succ])
      refine wpAnyH_take (i := 7) (oi := ⟨some 12, _, _, _, _, _⟩) (v := undef) rfl (by kernel_rfl) (by kernel_rfl) (by kernel_rfl) (fun _ _ _ h => h) (Or.inr ⟨by rfl, rfl⟩) (by assumption) ?_
      (try simp only [Act.put, List.setIfInBounds_toArray, List.set_cons_zero, List.set_cons_succ])
      refine wT 8 13 (by assumption) ?_
      refine wT 9 4 (by assumption) ?_
      refine wpAnyH_done (by kernel_rfl) ?_ _
      go_wp2_with fail
      go_ret
      exact ⟨by rw [HR.out]; rfl, Step.of⟩
  · have g0 : (v.kind = kindV v) = False := eq_false e0
    have HR : Hid (wholeB kd v = false) := by show _ = _; rw [wholeB, sameV, HK.out]; simp [e0]
    clear e0 HK
    go_enter Tryz.func56, Tryz.ntmps56
    go_upto_region 1 with fail
    rw [← hW1]
    clear hW1
    obtain ⟨x0, x1, x2, x3⟩ := At.z4 HB1.out.at0
    have lx := HB1.out.lt
    refine wp_region_held_drew (S := (fun w' => Step W1 w' ∧ (∀ b o, b < W1.heap.size → w'.cell? ⟨b, o, none⟩ = W1.cell? ⟨b, o, none⟩))) (by kernel_rfl) (by (try dsimp only); (first | exact ⟨hS1, hS2⟩ | exact ⟨Step.of, (bcell (fut _ _)).1⟩)) (fun hHeld => ?_)
    refine wT 0 5 (by assumption) ?_
    refine wT 1 6 (by assumption) ?_
    refine wpAnyH_ready (rs := [2]) (by kernel_rfl) (by simp) ?_
    refine AllReadyH.cons (o := ⟨some 7, _, _, _, _, _⟩) rfl (fun K hK => ?_) AllReadyH.nil
    obtain ⟨hS1, hS2⟩ := hHeld
    go_simp
    (go_at_call 109; (with_reducible refine (PV.out _).mono ?_); rintro e w5 ⟨rfl, hs5⟩)
    refine hK.out _ _ (by (try dsimp only); (first | exact ⟨hS1, hS2⟩ | exact ⟨Step.of, (bcell (fut _ _)).1⟩)) (fun hHeld => ?_)
    clear hK K
    (try simp only [Act.put, List.setIfInBounds_toArray, List.set_cons_zero, List.set_cons_succ])
    refine wT 3 8 (by assumption) ?_
    refine wT 4 9 (by assumption) ?_
    refine wpAnyH_take (i := 5) (oi := ⟨some 10, _, _, _, _, _⟩) (v := undef) rfl (by kernel_rfl) (by kernel_rfl) (by kernel_rfl) (fun _ _ _ h => h) (Or.inr ⟨by rfl, rfl⟩) (by assumption) ?_
    (try simp only [Act.put, List.setIfInBounds_toArray, List.set_cons_zero, List.set_cons_succ])
    refine wpAnyH_take (i := 6) (oi := ⟨some 11, _, _, _, _, _⟩) (v := undef) rfl (by kernel_rfl) (by kernel_rfl) (by kernel_rfl) (fun _ _ _ h => h) (Or.inr ⟨by rfl, rfl⟩) (by assumption) ?_
    (try simp only [Act.put, List.setIfInBounds_toArray, List.set_cons_zero, List.set_cons_succ])
    refine wpAnyH_take (i := 7) (oi := ⟨some 12, _, _, _, _, _⟩) (v := undef) rfl (by kernel_rfl) (by kernel_rfl) (by kernel_rfl) (fun _ _ _ h => h) (Or.inr ⟨by rfl, rfl⟩) (by assumption) ?_
    (try simp only [Act.put, List.setIfInBounds_toArray, List.set_cons_zero, List.set_cons_succ])
    refine wT 8 13 (by assumption) ?_
    refine wT 9 4 (by assumption) ?_
    refine wpAnyH_done (by kernel_rfl) ?_ _
    go_wp2_with fail
    go_ret
    exact ⟨by rw [HR.out]; rfl, Step.of⟩
end Go.Proofs.YtnphokhehacfnaaGreatDoor

namespace Go.Proofs.YtnphokhehacfnaaGreatDoor
open Go.RowKit

def faultM (c : Int) : Value := .iface 121 (.agg #[.int .i64 c])
theorem throw_no (c : Int) (w : World) : Calls Tryz.prog 122 #[.bool false, .int .i64 c] w fun e w' => e = .returned (.tuple #[]) ∧ w' = w := by
  go_enter Tryz.func122, Tryz.ntmps122
  go_wp2_with fail
  go_end0
  exact ⟨rfl, rfl⟩
theorem throw_yes (c : Int) (w : World) : Calls Tryz.prog 122 #[.bool true, .int .i64 c] w fun e w' => e = .panicked [{ v := faultM c, recovered := false }] ∧ w' = w := by
  go_enter Tryz.func122, Tryz.ntmps122
  go_wp2
  exact ⟨rfl, rfl, rfl⟩
theorem number_any (n : Int) (w : World) : Calls Tryz.prog 162 #[.int .i64 n] w fun e w' => e = .returned (.agg #[.int .i64 1, .int .i64 n, .bool false, .string ⟨#[]⟩]) ∧ Step w w' := by
  go_enter Tryz.func162, Tryz.ntmps162
  go_wp2_with fail
  refine bodyPost_ret (v := .agg #[.int .i64 1, .int .i64 n, .bool false, .string ⟨#[]⟩]) (by simp [results, Tryz.results162, go_sem]) rfl ⟨rfl, Step.of⟩
def skindB (k : Int) : Bool := k == 0 || kindB k
theorem skind_any (k : Int) (w : World) : Calls Tryz.prog 167 #[.int .i64 k] w fun e w' => e = .returned (.bool (skindB k)) ∧ w' = w := by
  have KY := hide (vecKind_any k)
  by_cases h : k = 0
  · subst h
    have HR : Hid (skindB 0 = true) := rfl
    clear KY
    go_enter Tryz.func167, Tryz.ntmps167
    go_wp2_with fail
    go_ret
    exact ⟨by rw [HR.out]; rfl, rfl⟩
  · have hb : (k == 0) = false := beq_eq_false_iff_ne.2 h
    have HR : Hid (skindB k = kindB k) := by show _ = _; rw [skindB, hb]; rfl
    clear h
    go_enter Tryz.func167, Tryz.ntmps167
    go_wp2_with (go_at_call 104; (with_reducible refine (KY.out _).mono ?_); rintro e w1 ⟨rfl, rfl⟩)
    go_ret
    exact ⟨by rw [HR.out]; rfl, rfl⟩
def valueB (v : Val) : Bool := skindB v.kind && wholeB v.kind v
theorem value_any (v : Val) (w : World) (hs : v.s.size ≤ 9223372036854775807) : Calls Tryz.prog 138 #[.agg #[.int .i64 v.kind, .int .i64 v.i, .bool v.b, .string v.s]] w fun e w' => e = .returned (.bool (valueB v)) ∧ Step w w' := by
  have SK := fun w' => skind_any v.kind w'
  have WH := hide (fun w' => whole_any v.kind v w' hs)
  cases hk : skindB v.kind with
  | false =>
    rw [hk] at SK
    have SK := hide SK
    have HR : Hid (valueB v = false) := by show _ = _; rw [valueB, hk]; rfl
    clear hk
    go_enter Tryz.func138, Tryz.ntmps138
    go_wp2_with (go_at_call 167; (with_reducible refine (SK.out _).mono ?_); rintro e w1 ⟨rfl, rfl⟩)
    go_ret
    exact ⟨by rw [HR.out]; rfl, Step.of⟩
  | true =>
    rw [hk] at SK
    have SK := hide SK
    have HR : Hid (valueB v = wholeB v.kind v) := by show _ = _; rw [valueB, hk]; rfl
    clear hk
    go_enter Tryz.func138, Tryz.ntmps138
    go_wp2_with (first | (go_at_call 167; (with_reducible refine (SK.out _).mono ?_); rintro e w1 ⟨rfl, rfl⟩) | (go_at_call 56; (with_reducible refine (WH.out _).mono ?_); rintro e w2 ⟨rfl, hs2⟩))
    go_ret
    exact ⟨by rw [HR.out]; rfl, Step.of⟩
end Go.Proofs.YtnphokhehacfnaaGreatDoor

namespace Go.Proofs.YtnphokhehacfnaaGreatDoor
open Go.RowKit

theorem Fut.tr {a b c : World} (h1 : Fut a b) (h2 : Fut b c) : Fut a c := ⟨h1.below.trans (h2.below.mono h1.below.size)⟩
theorem idx_cases {α : Type} (p : α → Bool) (l : List α) : idx p l = -1 ∨ ∃ j : Nat, idx p l = (j : Int) ∧ j < l.length := by
  unfold idx
  split
  · rename_i h; exact .inr ⟨_, rfl, h⟩
  · exact .inl rfl
theorem idx_cases' {α : Type} (p : α → Bool) (l : List α) : (¬ 0 ≤ idx p l ∧ l.any p = false) ∨ (0 ≤ idx p l ∧ l.any p = true) := by
  unfold idx
  split
  · rename_i h
    exact .inr ⟨by omega, List.any_eq_true.2 ⟨l[l.findIdx p], List.getElem_mem h, List.findIdx_getElem (w := h)⟩⟩
  · rename_i h
    refine .inl ⟨by omega, ?_⟩
    rw [List.any_eq_false]
    intro x hx hp
    exact h (List.findIdx_lt_length_of_exists ⟨x, hx, hp⟩)
theorem idx_any {α : Type} (p : α → Bool) (l : List α) : decide (0 ≤ idx p l) = l.any p := by
  rcases idx_cases' p l with ⟨h1, h2⟩ | ⟨h1, h2⟩
  · rw [h2]; simpa using h1
  · rw [h2]; simpa using h1
/-- A spec's field. -/
structure Fld where
  source : Int
  trans : Int
  param : Int
def Fld.cells (f : Fld) : List Value := [.int .i64 f.source, .int .i64 f.trans, .int .i64 f.param]
/-- May a spec be? -/
def paramB (f : Fld) : Bool := if f.trans = 0 then f.param == 0 else if f.trans = 1 ∨ f.trans = 2 then decide (1 ≤ f.param) && decide (f.param ≤ 1024) else false
def sameF (f o : Fld) : Bool := o.source == f.source && o.trans == f.trans
def colId (id : Int) (c : Col) : Bool := c.id == id
def fldB (s : Sch) (fs : List Fld) (k : Nat) (f : Fld) : Bool :=
  decide (0 ≤ idx (colId f.source) s.cols) && (paramB f && (!(f.trans == 2 && (s.cols.getD (s.cols.findIdx (colId f.source)) ⟨0, .empty, 0⟩).kind == 2) && !(fs.take k).any (sameF f)))
def fldsUpto (s : Sch) (fs : List Fld) : Nat → Bool
  | 0 => true
  | k + 1 => fldsUpto s fs k && (match fs[k]? with | some f => fldB s fs k f | none => true)
def specB (id : Int) (fs : List Fld) (s : Sch) : Bool := mayB s && (decide (0 ≤ id) && (decide (id ≤ 2147483647) && (decide (fs.length ≤ 4) && fldsUpto s fs fs.length)))
theorem fldsUpto_iff {s : Sch} {fs : List Fld} : ∀ {k : Nat}, fldsUpto s fs k = true ↔ ∀ i, i < k → ∀ f, fs[i]? = some f → fldB s fs i f = true
  | 0 => by simp [fldsUpto]
  | k + 1 => by
    rw [fldsUpto, Bool.and_eq_true, fldsUpto_iff]
    constructor
    · rintro ⟨h1, h2⟩ i hi n hn
      rcases Nat.lt_or_eq_of_le (Nat.le_of_lt_succ hi) with h | rfl
      · exact h1 i h n hn
      · rw [hn] at h2; exact h2
    · intro h
      refine ⟨fun i hi => h i (by omega), ?_⟩
      cases hk : fs[k]? with
      | none => rfl
      | some n => exact h k (by omega) n hk
theorem fldsUpto_bad {s : Sch} {fs : List Fld} {k : Nat} {f : Fld} (hn : fs[k]? = some f) (h : fldB s fs k f = false) : fldsUpto s fs fs.length = false := by
  cases e : fldsUpto s fs fs.length with
  | false => rfl
  | true =>
    have := fldsUpto_iff.1 e k (List.getElem?_eq_some_iff.1 hn).1 f hn
    rw [h] at this; cases this
theorem fldsUpto_succ {s : Sch} {fs : List Fld} {k : Nat} {f : Fld} (h : fldsUpto s fs k = true) (hn : fs[k]? = some f) (hf : fldB s fs k f = true) : fldsUpto s fs (k + 1) = true := by
  rw [fldsUpto, h, hn]; exact hf
set_option maxHeartbeats 4000000 in
theorem indexFuncFld_any {w0 : World} (f : FuncId) (caps : Array Value) (p : Fld → Bool) (A : Option Addr) (cap : Nat) (l : List Fld) (w : World)
    (hB : l.length ≤ 4611686018427387904) (hat : SlAt w0 w0.heap.size 3 A (l.map Fld.cells)) [hf0 : Fut w0 w]
    (hcall : ∀ args w, (callFunc f args).run Tryz.prog w = .ok (.enter f args) w)
    (hf : ∀ c ∈ l, ∀ w' [Fut w w'], Calls Tryz.prog f (#[.agg #[.int .i64 c.source, .int .i64 c.trans, .int .i64 c.param]] ++ caps) w' fun e w'' => e = .returned (.bool (p c)) ∧ Step w' w'') :
    Calls Tryz.prog 152 #[.slice A l.length cap, .func (.func f) #[] caps] w fun e w' =>
      e = .returned (.int .i64 (idx p l)) ∧ Step w w' := by
  have HF := Lib.hid hf; clear hf
  have hz := hf0.below.size
  go_enter Tryz.func152, Tryz.ntmps152
  go_wp2
  go_loopw [8] (fun i wr => ∃ k : Nat, k ≤ l.length ∧ i = .int .i64 k ∧ k ≤ l.findIdx p ∧ Step w wr) (fun i _ => l.length - (intOf i).toNat)
  case atStart => exact ⟨0, Nat.zero_le _, rfl, Nat.zero_le _, Step.of⟩
  case round =>
    obtain ⟨k, hk, rfl, hfi, hst⟩ := hrel
    obtain ⟨wo, rfl⟩ : ∃ x : World, x = wr := ⟨_, rfl⟩
    have hzo := hst.size
    by_cases hlt : k < l.length
    · obtain ⟨b, off, rfl, hb, hc⟩ := hat.elem (w' := wo) inferInstance (k := k) (by simpa using hlt)
      have hck := hc k l[k].cells (by simp [hlt])
      obtain ⟨h0, h1, h2⟩ := At.l3 hck
      have hlb : b < wo.heap.size := by omega
      have HC := HF.out l[k] (List.getElem_mem hlt) wo
      have HC' := Lib.hid HC; clear HC hc hck
      cases hp : p l[k] with
      | true =>
        have Hp := Lib.hid hp; clear hp
        go_wp2_with (refine HC'.out.mono ?_; rintro e w' ⟨rfl, hs⟩; rw [Hp.out])
        go_ret
        have e : l.findIdx p = k := fi_hit p l k hlt hfi Hp.out
        exact ⟨ret_int (by simp [idx, e, hlt]), Step.of⟩
      | false =>
        have Hp := Lib.hid hp; clear hp
        go_wp2_with (refine HC'.out.mono ?_; rintro e w' ⟨rfl, hs⟩; rw [Hp.out])
        go_roundw
        case rel => exact ⟨k + 1, by omega, by go_num, fi_miss p l k hlt hfi Hp.out, Step.of⟩
        case measure => simp [intOf]; omega
    · go_wp2_with fail
      go_ret
      exact ⟨ret_int (by rw [idx, if_neg (by omega)]), Step.of⟩
theorem containsFuncFld_any {w0 : World} (f : FuncId) (caps : Array Value) (p : Fld → Bool) (A : Option Addr) (cap : Nat) (l : List Fld) (w : World)
    (hB : l.length ≤ 4611686018427387904) (hat : SlAt w0 w0.heap.size 3 A (l.map Fld.cells)) [hf0 : Fut w0 w]
    (hcall : ∀ args w, (callFunc f args).run Tryz.prog w = .ok (.enter f args) w)
    (hf : ∀ c ∈ l, ∀ w' [Fut w w'], Calls Tryz.prog f (#[.agg #[.int .i64 c.source, .int .i64 c.trans, .int .i64 c.param]] ++ caps) w' fun e w'' => e = .returned (.bool (p c)) ∧ Step w' w'') :
    Calls Tryz.prog 107 #[.slice A l.length cap, .func (.func f) #[] caps] w fun e w' =>
      e = .returned (.bool (l.any p)) ∧ Step w w' := by
  have C := hide (indexFuncFld_any f caps p A cap l w hB hat hcall hf)
  have HA := hide (idx_any p l)
  clear hf hcall hat
  rw [← HA.out]
  clear HA
  obtain ⟨r, hr⟩ : ∃ r, idx p l = r := ⟨_, rfl⟩
  rw [hr] at C
  rw [hr]
  clear hr
  go_enter Tryz.func107, Tryz.ntmps107
  go_wp2_with (refine C.out.mono ?_; rintro e w' ⟨rfl, hs⟩)
  go_ret
  exact ⟨rfl, Step.of⟩
end Go.Proofs.YtnphokhehacfnaaGreatDoor

namespace Go.Proofs.YtnphokhehacfnaaGreatDoor
open Go.RowKit

theorem At.far {w : World} {b o r i : Nat} {cs : List Value} (h : At w b o cs) (hne : b ≠ r) (u : Value) : At (w.setCell ⟨r, i, none⟩ u) b o cs := h.keep fun o' => World.cell?_of_block (w := w) (Below.heap_setCell w _ u b (by simpa using hne))
theorem hdz (w : World) : w.drew.heap.size = w.heap.size := rfl
theorem ptruth_any (b : Bool) (w : World) : Calls Tryz.prog 209 #[.bool b] w fun e w' => e = .returned (.int .i64 (truthI b)) ∧ w = w' := by
  cases b
  all_goals
    go_enter Tryz.func209, Tryz.ntmps209
    go_wp2
    go_ret
    exact ⟨rfl, rfl⟩
set_option maxHeartbeats 1000000 in
theorem pjoin_any (k a b : Int) (w : World) (hk : k = 3 ∨ k = 4 ∨ k = 5) (ha : Tr a) (hb : Tr b) : Calls Tryz.prog 204 #[.int .i64 k, .int .i64 a, .int .i64 b] w fun e w' => e = .returned (.int .i64 (joinT k a b)) ∧ w = w' := by
  rcases hk with rfl | rfl | rfl <;> rcases ha with rfl | rfl | rfl <;> rcases hb with rfl | rfl | rfl
  all_goals
    go_enter Tryz.func204, Tryz.ntmps204
    go_wp2_with (go_at_call 209; refine (ptruth_any _ _).mono ?_; rintro e w' ⟨rfl, rfl⟩)
    go_ret
    exact ⟨rfl, rfl⟩
theorem clean_nil {v : Val} (h : kindV v = 0) : clean v = Val.zero := by
  unfold kindV at h
  have h1 : v.kind ≠ 1 := by intro e; simp [e] at h
  have h2 : v.kind ≠ 2 := by intro e; simp [e] at h
  have h3 : v.kind ≠ 3 := by intro e; simp [e] at h
  simp [clean, h1, h2, h3]
def Val.box (v : Val) : List Value := [.int .i64 (kindV v), .int .i64 (clean v).i, .bool (clean v).b, .string (clean v).s]
theorem Blk.put4 {w : World} {g : Nat} {e : TypeId} {a b c d : Value} (h : Blk w g e [a, b, c, d]) (x y z u : Value) : Blk ((((w.setCell ⟨g, 0, none⟩ x).setCell ⟨g, 1, none⟩ y).setCell ⟨g, 2, none⟩ z).setCell ⟨g, 3, none⟩ u) g e [x, y, z, u] :=
  (((h.set_ 0 x).set_ 1 y).set_ 2 z).set_ 3 u
theorem Blk.far4 {w : World} {g r : Nat} {e : TypeId} {cur : List Value} (h : Blk w g e cur) (hne : g ≠ r) (x y z u : Value) : Blk ((((w.setCell ⟨r, 0, none⟩ x).setCell ⟨r, 1, none⟩ y).setCell ⟨r, 2, none⟩ z).setCell ⟨r, 3, none⟩ u) g e cur :=
  (((h.far (p := ⟨r, 0, none⟩) hne x).far (p := ⟨r, 1, none⟩) hne y).far (p := ⟨r, 2, none⟩) hne z).far (p := ⟨r, 3, none⟩) hne u
theorem below4 {w w' : World} {B r : Nat} (h : Below B w w') (hr : B ≤ r) (x y z u : Value) : Below B w ((((w'.setCell ⟨r, 0, none⟩ x).setCell ⟨r, 1, none⟩ y).setCell ⟨r, 2, none⟩ z).setCell ⟨r, 3, none⟩ u) :=
  (((h.setCell (p := ⟨r, 0, none⟩) hr x).setCell (p := ⟨r, 1, none⟩) hr y).setCell (p := ⟨r, 2, none⟩) hr z).setCell (p := ⟨r, 3, none⟩) hr u

set_option maxRecDepth 100000 in
set_option maxHeartbeats 4000000 in
theorem pless_any (a b : Val) (w : World) : Calls Tryz.prog 183 #[a.val, b.val] w fun e w' => e = .returned (.bool (lessV a b)) ∧ Step w w' := by
  obtain ⟨R, hR⟩ : ∃ R, lessV a b = R := ⟨_, rfl⟩
  have HR := hide hR
  rw [hR]
  clear hR
  have PA := hide (plain_ag a)
  have PB := hide (plain_ag b)
  unfold Val.val
  have HA0 := hide ((Blk.new w a.cells 36).alloc (.cells #[.int .i64 b.kind, .int .i64 b.i, .bool b.b, .string b.s] 36))
  have HB0 := hide (Blk.new_at (w := w.alloc (.cells #[.int .i64 a.kind, .int .i64 a.i, .bool a.b, .string a.s] 36)) (b := w.heap.size + 1) (by simp) b.cells 36)
  go_enter Tryz.func183, Tryz.ntmps183
  go_upto_region 1 with (fail)
  obtain ⟨W, hW⟩ : ∃ W, W = (w.alloc (.cells #[.int .i64 a.kind, .int .i64 a.i, .bool a.b, .string a.s] 36)).alloc (.cells #[.int .i64 b.kind, .int .i64 b.i, .bool b.b, .string b.s] 36) := ⟨_, rfl⟩
  have SW : Step w W := by rw [hW]; exact Step.of
  have HA : Hid (Blk W w.heap.size 36 [.int .i64 a.kind, .int .i64 a.i, .bool a.b, .string a.s]) := by rw [hW]; exact HA0.out
  have HB : Hid (Blk W (w.heap.size + 1) 36 [.int .i64 b.kind, .int .i64 b.i, .bool b.b, .string b.s]) := by rw [hW]; exact HB0.out
  rw [← hW]
  clear hW HA0 HB0
  go_cut [8] from 5 to 7 (fun _ wx => Blk wx w.heap.size 36 a.box ∧ Blk wx (w.heap.size + 1) 36 b.box ∧ Step w wx)
  case first =>
    obtain ⟨a0, a1, a2, a3⟩ := At.z4 HA.out.at0
    obtain ⟨b0, b1, b2, b3⟩ := At.z4 HB.out.at0
    have la := HA.out.lt; have lb := HB.out.lt
    have fa := HA.out.free; have fb := HB.out.free
    go_region_law (first
      | (go_simp; go_at_call 109; first
          | ((with_reducible refine (PA.out _).mono ?_); intro e w5 hr5; obtain ⟨rfl, hs5⟩ := hr5; obtain ⟨c5, f5⟩ := hs5.reads; (try simp only [hdz] at c5 f5); have z6 := hs5.size; (try simp only [hdz] at z6); (try have lt6 : w.heap.size < w5.heap.size := by omega); (try have lt7 : w.heap.size + 1 < w5.heap.size := by omega))
          | ((with_reducible refine (PB.out _).mono ?_); intro e w6 hr6; obtain ⟨rfl, hs6⟩ := hr6; obtain ⟨c6, f6⟩ := hs6.reads; (try simp only [hdz] at c6 f6); have z7 := hs6.size; (try simp only [hdz] at z7); (try have lt8 : w.heap.size < w6.heap.size := by omega); (try have lt9 : w.heap.size + 1 < w6.heap.size := by omega))))
    all_goals
      go_wp2_with fail
      go_meet
      case rel =>
        have ka := HA.out.fut (w' := w6)
        have kb := HB.out.fut (w' := w6)
        exact ⟨(ka.put4 _ _ _ _).far4 (by omega) _ _ _ _, (kb.far4 (by omega) _ _ _ _).put4 _ _ _ _, ⟨below4 (below4 (fut w w6) (Nat.le_refl _) _ _ _ _) (by omega) _ _ _ _⟩⟩
  case rest =>
    obtain ⟨ha, hb, hs⟩ := hcut
    obtain ⟨a0, a1, a2, a3⟩ := At.z4 ha.at0
    obtain ⟨b0, b1, b2, b3⟩ := At.z4 hb.at0
    have la := ha.lt; have lb := hb.lt
    clear ha hb HA HB PA PB
    obtain ⟨x0, x3⟩ := kindV_bd a
    by_cases hk : kindV a = kindV b
    · have e0 : (kindV a != kindV b) = false := by simpa using hk
      have HK := hide hk
      clear hk
      have hcs : kindV a = 1 ∨ kindV a = 2 ∨ kindV a = 3 ∨ kindV a = 0 := by omega
      rcases hcs with h | h | h | h
      · have e1 : (kindV a == 1) = true := by simpa using h
        have HE : Hid (decide ((clean a).i < (clean b).i) = R) := by
          show _ = _
          rw [← HR.out, lessV, if_neg (by simp [HK.out]), if_pos h, clean_i h, clean_i (by rw [← HK.out]; exact h)]
        clear h x0 x3
        go_wp2
        go_ret
        exact ⟨ret_bool HE.out, hs⟩
      · have e1 : (kindV a == 1) = false := by simp [h]
        have e2 : (kindV a == 2) = true := by simpa using h
        have HE : Hid ((!(clean a).b && (clean b).b) = R) := by
          show _ = _
          rw [← HR.out, lessV, if_neg (by simp [HK.out]), if_neg (by omega), if_pos h, clean_b h, clean_b (by rw [← HK.out]; exact h)]
        clear h x0 x3
        obtain ⟨u, hu⟩ : ∃ u, (clean a).b = u := ⟨_, rfl⟩
        rw [hu] at HE a2
        clear hu
        cases u
        all_goals
          go_wp2
          go_ret
          exact ⟨ret_bool (by have := HE.out; simpa using this), hs⟩
      · have e1 : (kindV a == 1) = false := by simp [h]
        have e2 : (kindV a == 2) = false := by simp [h]
        have HE : Hid (Op.bytesLess (clean a).s.toList (clean b).s.toList = R) := by
          show _ = _
          rw [← HR.out, lessV, if_neg (by simp [HK.out]), if_neg (by omega), if_neg (by omega), if_pos h, clean_s h, clean_s (by rw [← HK.out]; exact h)]
          rfl
        clear h x0 x3
        go_wp2
        go_ret
        exact ⟨ret_bool HE.out, hs⟩
      · have e1 : (kindV a == 1) = false := by simp [h]
        have e2 : (kindV a == 2) = false := by simp [h]
        have HE : Hid (Op.bytesLess (clean a).s.toList (clean b).s.toList = R) := by
          show _ = _
          rw [← HR.out, lessV, if_neg (by simp [HK.out]), if_neg (by omega), if_neg (by omega), if_neg (by omega), clean_nil (v := b) (by rw [← HK.out]; exact h)]
          rw [ByteArray.toList_eq, ByteArray.toList_eq]
          exact bytesLess_nil _
        clear h x0 x3
        go_wp2
        go_ret
        exact ⟨ret_bool HE.out, hs⟩
    · have e0 : (kindV a != kindV b) = true := by simpa using hk
      have HE : Hid (decide (kindV a < kindV b) = R) := by
        show _ = _
        rw [← HR.out, lessV, if_pos hk]
      clear hk x0 x3
      go_wp2
      go_ret
      exact ⟨ret_bool HE.out, hs⟩

set_option maxHeartbeats 2000000 in
theorem pstands_any (c : Int) (a b : Val) (w : World) : Calls Tryz.prog 210 #[.int .i64 c, a.val, b.val] w fun e w' => e = .returned (.bool (standB c a b)) ∧ Step w w' := by
  obtain ⟨L, hL⟩ : ∃ L, lessV a b = L := ⟨_, rfl⟩
  obtain ⟨M, hM⟩ : ∃ M, lessV b a = M := ⟨_, rfl⟩
  have HS : Hid (standB c a b = (if c = 0 then !L && !M else if c = 1 then L || M else if c = 2 then L else if c = 3 then !M else if c = 4 then M else !L)) := by show _ = _; rw [← hL, ← hM]; rfl
  have pa := pless_any a b
  have pb := pless_any b a
  rw [hL] at pa
  rw [hM] at pb
  clear hL hM
  unfold Val.val at pa pb ⊢
  have PA := hide pa; have PB := hide pb
  clear pa pb
  obtain ⟨R, hR⟩ : ∃ R, standB c a b = R := ⟨_, rfl⟩
  rw [hR] at HS ⊢
  clear hR
  have HA0 := hide ((Blk.new w a.cells 36).alloc (.cells #[.int .i64 b.kind, .int .i64 b.i, .bool b.b, .string b.s] 36))
  have HB0 := hide (Blk.new_at (w := w.alloc (.cells #[.int .i64 a.kind, .int .i64 a.i, .bool a.b, .string a.s] 36)) (b := w.heap.size + 1) (by simp) b.cells 36)
  go_enter Tryz.func210, Tryz.ntmps210
  go_upto_region 1 with (fail)
  obtain ⟨W, hW⟩ : ∃ W, W = (w.alloc (.cells #[.int .i64 a.kind, .int .i64 a.i, .bool a.b, .string a.s] 36)).alloc (.cells #[.int .i64 b.kind, .int .i64 b.i, .bool b.b, .string b.s] 36) := ⟨_, rfl⟩
  have SW : Step w W := by rw [hW]; exact Step.of
  have HA : Hid (Blk W w.heap.size 36 [.int .i64 a.kind, .int .i64 a.i, .bool a.b, .string a.s]) := by rw [hW]; exact HA0.out
  have HB : Hid (Blk W (w.heap.size + 1) 36 [.int .i64 b.kind, .int .i64 b.i, .bool b.b, .string b.s]) := by rw [hW]; exact HB0.out
  rw [← hW]
  clear hW HA0 HB0
  go_cut [7, 8] from 9 to 14 (fun x y wx => x = .bool L ∧ y = .bool M ∧ Step W wx)
  case first =>
    obtain ⟨a0, a1, a2, a3⟩ := At.z4 HA.out.at0
    obtain ⟨b0, b1, b2, b3⟩ := At.z4 HB.out.at0
    have la := HA.out.lt; have lb := HB.out.lt
    go_region_held3 (fun w' => Step W w' ∧ (∀ b o, b < W.heap.size → w'.cell? ⟨b, o, none⟩ = W.cell? ⟨b, o, none⟩))
      (first | exact ⟨Step.of, (bcell (fut _ _)).1⟩)
      (first | (go_at_call 183; go_split_ands; first | ((with_reducible refine (PA.out _).mono ?_); rintro e w' ⟨rfl, hq⟩) | ((with_reducible refine (PB.out _).mono ?_); rintro e w' ⟨rfl, hq⟩)))
    all_goals
      go_wp2_with fail
      go_meet
      case rel => exact ⟨rfl, rfl, by go_split_ands; first | assumption | exact Step.of⟩
  case rest =>
    obtain ⟨rfl, rfl, hs⟩ := hcut
    clear PA PB HA HB
    by_cases h0 : c = 0
    · subst h0
      cases L <;> cases M
      all_goals
        go_wp2
        go_ret
        exact ⟨ret_bool (by rw [HS.out]; rfl), Step.of⟩
    have e0 : (c == 0) = false := by simpa using h0
    by_cases h1 : c = 1
    · subst h1
      clear h0 e0
      cases L <;> cases M
      all_goals
        go_wp2
        go_ret
        exact ⟨ret_bool (by rw [HS.out]; rfl), Step.of⟩
    have e1 : (c == 1) = false := by simpa using h1
    by_cases h2 : c = 2
    · subst h2
      clear h0 e0 h1 e1
      go_wp2
      go_ret
      exact ⟨ret_bool (by rw [HS.out]; rfl), Step.of⟩
    have e2 : (c == 2) = false := by simpa using h2
    by_cases h3 : c = 3
    · subst h3
      clear h0 e0 h1 e1 h2 e2
      go_wp2
      go_ret
      exact ⟨ret_bool (by rw [HS.out]; rfl), Step.of⟩
    have e3 : (c == 3) = false := by simpa using h3
    by_cases h4 : c = 4
    · subst h4
      clear h0 e0 h1 e1 h2 e2 h3 e3
      go_wp2
      go_ret
      exact ⟨ret_bool (by rw [HS.out]; rfl), Step.of⟩
    have e4 : (c == 4) = false := by simpa using h4
    have HX : Hid (R = !L) := by show _ = _; rw [HS.out]; simp [h0, h1, h2, h3, h4]
    clear h0 h1 h2 h3 h4
    go_wp2
    go_ret
    exact ⟨ret_bool HX.out.symm, Step.of⟩

theorem leafT_null {n : Nod} {v : Val} (h : n.kind = 2) : leafT n v = truthI (kindV v == 0) := by simp [leafT, h]
theorem leafT_cmp {n : Nod} {v : Val} (h : n.kind = 1) (hv : kindV v ≠ 0) : leafT n v = truthI (standB n.cmp v n.v) := by simp [leafT, h, hv]
theorem leafT_unk {n : Nod} {v : Val} (h : n.kind = 1) (hv : kindV v = 0) : leafT n v = 2 := by simp [leafT, h, hv]
def Val.cl (v : Val) : Val := ⟨kindV v, (clean v).i, (clean v).b, (clean v).s⟩
theorem cl_eq (v : Val) : v.cl = clean v := by rw [Val.cl, ← clean_kind]
set_option maxRecDepth 100000 in
set_option maxHeartbeats 4000000 in
/-- A node that stands in memory, and its truth of a value. -/
theorem pleaf_any {w0 : World} (b o : Nat) (n : Nod) (v : Val) (w : World) (hn : At w0 b o n.cells) (hb : b < w0.heap.size) [hf : Fut w0 w] (hk : n.kind = 1 ∨ n.kind = 2) :
    Calls Tryz.prog 203 #[.pointer (some ⟨b, o, none⟩), v.val] w fun e w' => e = .returned (.int .i64 (leafT n v)) ∧ Step w w' := by
  have PV := hide (plain_ag v)
  have hz := hf.below.size
  have hlt : b < w.heap.size := by omega
  have HN := hide hn; clear hn
  have HV0 := hide (Blk.new w [.int .i64 v.kind, .int .i64 v.i, .bool v.b, .string v.s] 36)
  unfold Val.val
  obtain ⟨R, hR⟩ : ∃ R, leafT n v = R := ⟨_, rfl⟩
  have HR := hide hR
  rw [hR]
  clear hR
  go_enter Tryz.func203, Tryz.ntmps203
  go_wp2_with fail
  refine (PV.out _).mono ?_
  rintro e w1 ⟨rfl, hs1⟩
  have HV1 := hide (HV0.out.fut (w' := w1))
  obtain ⟨v0, v1, v2, v3⟩ := At.z4 HV1.out.at0
  have fv := HV1.out.free; have lv := HV1.out.lt
  obtain ⟨n0, n1, n2, n3, n4, n5, n6, n7, n8⟩ := At.l9 (HN.out.below (fut w0 w1) hb)
  have hlt1 : b < w1.heap.size := by omega
  have hne : b ≠ w.heap.size := by omega
  rcases hk with hk | hk
  · by_cases hv : kindV v = 0
    · have hv' : (kindV v == 0) = true := by simpa using hv
      have HL := hide (leafT_unk hk hv)
      rw [hk] at n0
      clear hk hv
      go_wp2_with fail
      go_ret
      exact ⟨ret_int (by rw [← HR.out, HL.out]), ⟨below4 (fut w w1) (Nat.le_refl _) _ _ _ _⟩⟩
    · have hv' : (kindV v == 0) = false := by simpa using hv
      have HL := hide (leafT_cmp hk hv)
      have ps := pstands_any n.cmp v.cl n.v
      have hst : standB n.cmp v.cl n.v = standB n.cmp v n.v := by rw [cl_eq, standB_clean]
      rw [hst] at ps
      unfold Val.val Val.cl at ps
      have PS := hide ps
      rw [hk] at n0
      clear hk hv hst ps
      go_upto_region 8 with (fail)
      obtain ⟨W, hW⟩ : ∃ W, W = (((w1.setCell ⟨w.heap.size, 0, none⟩ (.int .i64 (kindV v))).setCell ⟨w.heap.size, 1, none⟩ (.int .i64 (clean v).i)).setCell ⟨w.heap.size, 2, none⟩ (.bool (clean v).b)).setCell ⟨w.heap.size, 3, none⟩ (.string (clean v).s) := ⟨_, rfl⟩
      have SW : Step w W := by rw [hW]; exact ⟨below4 (fut w w1) (Nat.le_refl _) _ _ _ _⟩
      have HVW : Hid (Blk W w.heap.size 36 v.box) := by rw [hW]; exact HV1.out.put4 _ _ _ _
      have HNW : Hid (At W b o n.cells) := by rw [hW]; exact ((((HN.out.below (fut w0 w1) hb).far hne _).far hne _).far hne _).far hne _
      have hzW : b < W.heap.size := by rw [hW]; simpa [World.setCell] using hlt1
      rw [← hW]
      clear hW v0 v1 v2 v3 n0 n1 n2 n3 n4 n5 n6 n7 n8 fv lv HV1
      obtain ⟨v0, v1, v2, v3⟩ := At.z4 HVW.out.at0
      obtain ⟨n0, n1, n2, n3, n4, n5, n6, n7, n8⟩ := At.l9 HNW.out
      have lv := HVW.out.lt
      refine wp_region_held_drew (S := (fun w' => Step W w' ∧ (∀ b o, b < W.heap.size → w'.cell? ⟨b, o, none⟩ = W.cell? ⟨b, o, none⟩))) (by kernel_rfl) (by (try dsimp only); (first | exact ⟨hS1, hS2⟩ | exact ⟨Step.of, (bcell (fut _ _)).1⟩)) (fun hHeld => ?_)
      refine wpAnyH_take (i := 0) (oi := ⟨some 27, _, _, _, _, _⟩) (v := ?va1) rfl (by kernel_rfl) (by kernel_rfl) (by kernel_rfl) (fun _ _ _ h => h) (Or.inl ⟨by rfl, ?hy1⟩) (by assumption) ?rs1
      case hy1 => ((intro w hSw); (try dsimp only at hSw); go_simp; (try with_reducible rfl))
      (try simp only [Act.put, List.setIfInBounds_toArray, List.set_cons_zero, List.set_cons_succ])
      refine wpAnyH_take (i := 1) (oi := ⟨some 28, _, _, _, _, _⟩) (v := ?va2) rfl (by kernel_rfl) (by kernel_rfl) (by kernel_rfl) (fun _ _ _ h => h) (Or.inl ⟨by rfl, ?hy2⟩) (by assumption) ?rs2
      case hy2 => ((intro w hSw); (try dsimp only at hSw); go_simp; (try with_reducible rfl))
      (try simp only [Act.put, List.setIfInBounds_toArray, List.set_cons_zero, List.set_cons_succ])
      refine wpAnyH_take (i := 2) (oi := ⟨some 29, _, _, _, _, _⟩) (v := ?va3) rfl (by kernel_rfl) (by kernel_rfl) (by kernel_rfl) (fun _ _ _ h => h) (Or.inl ⟨by rfl, ?hy3⟩) (by assumption) ?rs3
      case hy3 => ((intro w hSw); (try dsimp only at hSw); go_simp; (try with_reducible rfl))
      (try simp only [Act.put, List.setIfInBounds_toArray, List.set_cons_zero, List.set_cons_succ])
      refine wpAnyH_take (i := 3) (oi := ⟨some 30, _, _, _, _, _⟩) (v := ?va4) rfl (by kernel_rfl) (by kernel_rfl) (by kernel_rfl) (fun _ _ _ h => h) (Or.inl ⟨by rfl, ?hy4⟩) (by assumption) ?rs4
      case hy4 => ((intro w hSw); (try dsimp only at hSw); go_simp; (try with_reducible rfl))
      (try simp only [Act.put, List.setIfInBounds_toArray, List.set_cons_zero, List.set_cons_succ])
      refine wpAnyH_take (i := 4) (oi := ⟨some 31, _, _, _, _, _⟩) (v := ?va5) rfl (by kernel_rfl) (by kernel_rfl) (by kernel_rfl) (fun _ _ _ h => h) (Or.inl ⟨by rfl, ?hy5⟩) (by assumption) ?rs5
      case hy5 => ((intro w hSw); (try dsimp only at hSw); go_simp; (try with_reducible rfl))
      (try simp only [Act.put, List.setIfInBounds_toArray, List.set_cons_zero, List.set_cons_succ])
      refine wpAnyH_take (i := 5) (oi := ⟨some 32, _, _, _, _, _⟩) (v := ?va6) rfl (by kernel_rfl) (by kernel_rfl) (by kernel_rfl) (fun _ _ _ h => h) (Or.inl ⟨by rfl, ?hy6⟩) (by assumption) ?rs6
      case hy6 => ((intro w hSw); (try dsimp only at hSw); go_simp; (try with_reducible rfl))
      (try simp only [Act.put, List.setIfInBounds_toArray, List.set_cons_zero, List.set_cons_succ])
      refine wpAnyH_take (i := 6) (oi := ⟨some 33, _, _, _, _, _⟩) (v := ?va7) rfl (by kernel_rfl) (by kernel_rfl) (by kernel_rfl) (fun _ _ _ h => h) (Or.inl ⟨by rfl, ?hy7⟩) (by assumption) ?rs7
      case hy7 => ((intro w hSw); (try dsimp only at hSw); go_simp; (try with_reducible rfl))
      (try simp only [Act.put, List.setIfInBounds_toArray, List.set_cons_zero, List.set_cons_succ])
      refine wpAnyH_take (i := 7) (oi := ⟨some 34, _, _, _, _, _⟩) (v := ?va8) rfl (by kernel_rfl) (by kernel_rfl) (by kernel_rfl) (fun _ _ _ h => h) (Or.inl ⟨by rfl, ?hy8⟩) (by assumption) ?rs8
      case hy8 => ((intro w hSw); (try dsimp only at hSw); go_simp; (try with_reducible rfl))
      (try simp only [Act.put, List.setIfInBounds_toArray, List.set_cons_zero, List.set_cons_succ])
      refine wpAnyH_take (i := 8) (oi := ⟨some 35, _, _, _, _, _⟩) (v := ?va9) rfl (by kernel_rfl) (by kernel_rfl) (by kernel_rfl) (fun _ _ _ h => h) (Or.inl ⟨by rfl, ?hy9⟩) (by assumption) ?rs9
      case hy9 => ((intro w hSw); (try dsimp only at hSw); go_simp; (try with_reducible rfl))
      (try simp only [Act.put, List.setIfInBounds_toArray, List.set_cons_zero, List.set_cons_succ])
      refine wpAnyH_ready (rs := [9]) (by kernel_rfl) (by simp) ?_
      refine AllReadyH.cons (o := ⟨some 36, _, _, _, _, _⟩) rfl (fun K hK => ?_) AllReadyH.nil
      obtain ⟨hS1, hS2⟩ := hHeld
      go_simp
      (go_at_call 210; (with_reducible refine (PS.out _).mono ?_); rintro e w' ⟨rfl, hq⟩)
      refine hK.out _ _ (by (try dsimp only); (first | exact ⟨hS1, hS2⟩ | exact ⟨Step.of, (bcell (fut _ _)).1⟩)) (fun hHeld => ?_)
      clear hK K
      (try simp only [Act.put, List.setIfInBounds_toArray, List.set_cons_zero, List.set_cons_succ])
      refine wpAnyH_ready (rs := [10]) (by kernel_rfl) (by simp) ?_
      refine AllReadyH.cons (o := ⟨some 37, _, _, _, _, _⟩) rfl (fun K hK => ?_) AllReadyH.nil
      obtain ⟨hS1, hS2⟩ := hHeld
      go_simp
      (go_at_call 209; (with_reducible refine (ptruth_any _ _).mono ?_); rintro e w' ⟨rfl, rfl⟩)
      refine hK.out _ _ (by (try dsimp only); (first | exact ⟨hS1, hS2⟩ | exact ⟨Step.of, (bcell (fut _ _)).1⟩)) (fun hHeld => ?_)
      clear hK K
      (try simp only [Act.put, List.setIfInBounds_toArray, List.set_cons_zero, List.set_cons_succ])
      refine wpAnyH_take (i := 11) (oi := ⟨some 4, _, _, _, _, _⟩) (v := ?va12) rfl (by kernel_rfl) (by kernel_rfl) (by kernel_rfl) (fun _ _ _ h => h) (Or.inl ⟨by rfl, ?hy12⟩) (by assumption) ?rs12
      case hy12 => ((intro w hSw); (try dsimp only at hSw); go_simp; (try with_reducible rfl))
      (try simp only [Act.put, List.setIfInBounds_toArray, List.set_cons_zero, List.set_cons_succ])
      refine wpAnyH_done (by kernel_rfl) ?_ _
      obtain ⟨hS1, hS2⟩ := hHeld
      go_wp2_with fail
      go_ret
      exact ⟨ret_int (by rw [← HR.out, HL.out]), Step.of⟩
  · have HL := hide (leafT_null (v := v) hk)
    rw [hk] at n0
    clear hk
    go_wp2_with (go_at_call 209; refine (ptruth_any _ _).mono ?_; rintro e w' ⟨rfl, rfl⟩)
    go_ret
    exact ⟨ret_int (by rw [← HR.out, HL.out]), ⟨below4 (fut w w1) (Nat.le_refl _) _ _ _ _⟩⟩
end Go.Proofs.YtnphokhehacfnaaGreatDoor

namespace Go.Proofs
open Go.Shelf
def Tryz.lays160_ren : Go.Shelf.Ren := ⟨fun | 160 => 149 | 232 => 172 | 231 => 171 | 227 => 173 | 234 => 175 | 233 => 174 | 236 => 177 | 235 => 176 | 228 => 190 | 271 => 193 | 151 => 192 | 197 => 191 | 120 => 200 | 152 => 199 | 260 => 198 | 137 => 205 | 119 => 206 | 224 => 207 | 225 => 208 | 217 => 211 | 266 => 212 | n => n, fun | 9 => 9 | 4 => 4 | 3 => 3 | 5 => 5 | 117 => 197 | 116 => 196 | 0 => 0 | 124 => 200 | 21 => 21 | 105 => 212 | 46 => 71 | 119 => 226 | 139 => 229 | 138 => 228 | n => n, fun | 3 => 0 | 4 => 1 | n => n⟩
theorem Tryz.lays160 : Go.Proofs.Lays.n160 Tryz.prog Tryz.lays160_ren := {
  mixed := by kernel_rfl
  f119 := Tryz.func206.trans (congrArg some (by kernel_rfl))
  f120 := Tryz.func200.trans (congrArg some (by kernel_rfl))
  f137 := Tryz.func205.trans (congrArg some (by kernel_rfl))
  f151 := Tryz.func192.trans (congrArg some (by kernel_rfl))
  f152 := Tryz.func199.trans (congrArg some (by kernel_rfl))
  f160 := Tryz.func149.trans (congrArg some (by kernel_rfl))
  f197 := Tryz.func191.trans (congrArg some (by kernel_rfl))
  f217 := Tryz.func211.trans (congrArg some (by kernel_rfl))
  f224 := Tryz.func207.trans (congrArg some (by kernel_rfl))
  f225 := Tryz.func208.trans (congrArg some (by kernel_rfl))
  f227 := Tryz.func173.trans (congrArg some (by kernel_rfl))
  f228 := Tryz.func190.trans (congrArg some (by kernel_rfl))
  f231 := Tryz.func171.trans (congrArg some (by kernel_rfl))
  f232 := Tryz.func172.trans (congrArg some (by kernel_rfl))
  f233 := Tryz.func174.trans (congrArg some (by kernel_rfl))
  f234 := Tryz.func175.trans (congrArg some (by kernel_rfl))
  f235 := Tryz.func176.trans (congrArg some (by kernel_rfl))
  f236 := Tryz.func177.trans (congrArg some (by kernel_rfl))
  f260 := Tryz.func198.trans (congrArg some (by kernel_rfl))
  f266 := Tryz.func212.trans (congrArg some (by kernel_rfl))
  f271 := Tryz.func193.trans (congrArg some (by kernel_rfl))
  t0 := Tryz.underlying0
  a0 := Tryz.isAgg0
  z0 := Tryz.sizeOf0
  v0 := Tryz.zeroValue0
  t3 := Tryz.underlying3
  a3 := Tryz.isAgg3
  z3 := Tryz.sizeOf3
  v3 := Tryz.zeroValue3
  t4 := Tryz.underlying4
  a4 := Tryz.isAgg4
  z4 := Tryz.sizeOf4
  v4 := Tryz.zeroValue4
  t5 := Tryz.underlying5
  a5 := Tryz.isAgg5
  z5 := Tryz.sizeOf5
  v5 := Tryz.zeroValue5
  t9 := Tryz.underlying9
  a9 := Tryz.isAgg9
  z9 := Tryz.sizeOf9
  v9 := Tryz.zeroValue9
  t21 := Tryz.underlying21
  a21 := Tryz.isAgg21
  z21 := Tryz.sizeOf21
  v21 := Tryz.zeroValue21
  t46 := Tryz.underlying71
  a46 := Tryz.isAgg71
  z46 := Tryz.sizeOf71
  v46 := Tryz.zeroValue71
  t105 := Tryz.underlying212
  a105 := Tryz.isAgg212
  z105 := Tryz.sizeOf212
  v105 := Tryz.zeroValue212
  t116 := Tryz.underlying196
  a116 := Tryz.isAgg196
  z116 := Tryz.sizeOf196
  t117 := Tryz.underlying197
  a117 := Tryz.isAgg197
  z117 := Tryz.sizeOf197
  v117 := Tryz.zeroValue197
  t119 := Tryz.underlying226
  a119 := Tryz.isAgg226
  z119 := Tryz.sizeOf226
  t124 := Tryz.underlying200
  a124 := Tryz.isAgg200
  z124 := Tryz.sizeOf200
  v124 := Tryz.zeroValue200
  t138 := Tryz.underlying228
  a138 := Tryz.isAgg228
  z138 := Tryz.sizeOf228
  v138 := Tryz.zeroValue228
  t139 := Tryz.underlying229
  a139 := Tryz.isAgg229
  z139 := Tryz.sizeOf229
  v139 := Tryz.zeroValue229
  g3 := by kernel_rfl
  g4 := by kernel_rfl }
end Go.Proofs

namespace Go.Proofs.YtnphokhehacfnaaGreatDoor
open Go.RowKit Go.Shelf Go.Lib

theorem dropWhile_nil {α : Type} (p : α → Bool) : ∀ l : List α, (l.dropWhile p = [] ↔ l.all p = true)
  | [] => by simp
  | x :: r => by
    cases h : p x with
    | true => simpa [h] using dropWhile_nil p r
    | false => simp [h]
theorem dw_all {α : Type} (p : α → Bool) : ∀ l : List α, (l.dropWhile p).all p = true → l.dropWhile p = []
  | [], _ => rfl
  | x :: r, h => by
    cases hx : p x with
    | true => simp only [List.dropWhile_cons, hx, if_true] at h ⊢; exact dw_all p r h
    | false => simp [hx] at h
theorem trimS_nil (l cs : List UInt8) : (Lib.trimS l cs).isEmpty = l.all (cs.contains ·) := by
  rw [Bool.eq_iff_iff, List.isEmpty_iff]
  unfold Lib.trimS Lib.trimLeftS Lib.trimRightS
  rw [dropWhile_nil]
  constructor
  · intro h
    have h2 : (l.reverse.dropWhile (cs.contains ·)) = [] := dw_all _ _ (by rw [List.all_reverse] at h; exact h)
    have h3 := (dropWhile_nil _ _).1 h2
    rw [List.all_reverse] at h3
    exact h3
  · intro h
    have h2 : (l.reverse.dropWhile (cs.contains ·)) = [] := (dropWhile_nil _ _).2 (by rw [List.all_reverse]; exact h)
    rw [h2]
    rfl

theorem trim_any (s : ByteArray) (w : World) (hs : s.size ≤ 9223372036854775807) :
    Calls Tryz.prog 149 #[.string s, .string ⟨#[97, 98, 99, 100, 101, 102, 103, 104, 105, 106, 107, 108, 109, 110, 111, 112, 113, 114, 115, 116, 117, 118, 119, 120, 121, 122, 48, 49, 50, 51, 52, 53, 54, 55, 56, 57, 95]⟩] w fun e w' =>
      ∃ r : ByteArray, r.toList.isEmpty = s.data.toList.all (nameSet.contains ·) ∧ e = .returned (.string r) ∧ Below w.heap.size w w' := by
  have hcon := Any.strings_Trim_laid Tryz.lays160 (by kernel_rfl) s ⟨#[97, 98, 99, 100, 101, 102, 103, 104, 105, 106, 107, 108, 109, 110, 111, 112, 113, 114, 115, 116, 117, 118, 119, 120, 121, 122, 48, 49, 50, 51, 52, 53, 54, 55, 56, 57, 95]⟩ w hs (by decide) (ascii_of_all (by decide))
  refine Calls.mono hcon fun e w' ⟨he, hb⟩ => ⟨_, ?_, he, hb⟩
  rw [ByteArray.toList_mk, trimS_nil]
  rfl

theorem name_any (s : ByteArray) (w : World) (hs : s.size ≤ 9223372036854775807) :
    Calls Tryz.prog 103 #[.string s] w fun e w' => e = .returned (.bool (nameB s)) ∧ Below w.heap.size w w' := by
  by_cases h1 : 1 ≤ s.size
  · by_cases h2 : s.size ≤ 16
    · go_enter Tryz.func103, Tryz.ntmps103
      go_wp2_with (go_at_call 149; refine (trim_any s _ hs).mono ?_; rintro e w' ⟨r, hr, rfl, hB⟩; have HR := Lib.hid hr; clear hr)
      go_ret
      exact ⟨ret_bool (by simp only [nameB, ← HR.out]; simp [h1, h2]), hB⟩
    · have h3 : 16 < s.size := by omega
      clear h2
      go_enter Tryz.func103, Tryz.ntmps103
      go_wp2
      go_ret
      exact ⟨ret_bool (by simp [nameB]; omega), Below.refl _ _⟩
  · have h3 : s.size = 0 := by omega
    clear h1
    go_enter Tryz.func103, Tryz.ntmps103
    go_wp2
    go_ret
    exact ⟨ret_bool (by simp [nameB, h3]), Below.refl _ _⟩
end Go.Proofs.YtnphokhehacfnaaGreatDoor

