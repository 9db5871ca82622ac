/-
  Sets of truths: some, join.
-/
import Derived.Test.YtcgpfllkbflbhaaGreatDoorSa
namespace Go.Proofs.YtcgpfllkbflbhaaGreatDoor
open Go.RowKit

set_option maxRecDepth 100000 in
set_option maxHeartbeats 4000000 in
theorem psome_any (c : Int) (a b v : Val) (w : World) (h0 : 0 ≤ c) (h5 : c ≤ 5) : Calls Tryz.prog 55 #[.int .i64 c, a.val, b.val, v.val] w fun e w' => e = .returned (.bool (someB c a b v)) ∧ Step w w' := by
  obtain ⟨W, hW⟩ : ∃ W, W = ((w.alloc (.cells #[.int .i64 a.kind, .int .i64 a.i, .bool a.b, .string a.s] 51)).alloc (.cells #[.int .i64 b.kind, .int .i64 b.i, .bool b.b, .string b.s] 51)).alloc (.cells #[.int .i64 v.kind, .int .i64 v.i, .bool v.b, .string v.s] 51) := ⟨_, rfl⟩
  have SW : Step w W := by rw [hW]; exact Step.of
  have HA : Hid (Blk W w.heap.size 51 a.cells) := by rw [hW]; exact ((Blk.new w a.cells 51).alloc _).alloc _
  have HB : Hid (Blk W (w.heap.size + 1) 51 b.cells) := by rw [hW]; exact (Blk.new_at (w := w.alloc (.cells #[.int .i64 a.kind, .int .i64 a.i, .bool a.b, .string a.s] 51)) (by simp) b.cells 51).alloc _
  have HV : Hid (Blk W (w.heap.size + 1 + 1) 51 v.cells) := by rw [hW]; exact Blk.new_at (by simp) v.cells 51
  have s1 := fun w' => pstands_any 3 a v w'
  have s2 := fun w' => pstands_any 3 v b w'
  have s3 := fun w' => pstands_any 1 a v w'
  have s4 := fun w' => pstands_any 1 b v w'
  have s5 := fun w' => pstands_any c a v w'
  have s6 := fun w' => pstands_any c b v w'
  obtain ⟨r1, h1⟩ : ∃ r, standB 3 a v = r := ⟨_, rfl⟩
  obtain ⟨r2, h2⟩ : ∃ r, standB 3 v b = r := ⟨_, rfl⟩
  obtain ⟨r3, h3⟩ : ∃ r, standB 1 a v = r := ⟨_, rfl⟩
  obtain ⟨r4, h4⟩ : ∃ r, standB 1 b v = r := ⟨_, rfl⟩
  obtain ⟨r5, h5'⟩ : ∃ r, standB c a v = r := ⟨_, rfl⟩
  obtain ⟨r6, h6⟩ : ∃ r, standB c b v = r := ⟨_, rfl⟩
  have HR : Hid (someB c a b v = (if c = 0 then r1 && r2 else if c = 1 then r3 || r4 else if c = 2 ∨ c = 3 then r5 else r6)) := by show _ = _; rw [someB, h1, h2, h3, h4, h5', h6]
  rw [HR.out]
  rw [h1] at s1; rw [h2] at s2; rw [h3] at s3; rw [h4] at s4; rw [h5'] at s5; rw [h6] at s6
  unfold Val.val at s1 s2 s3 s4 s5 s6 ⊢
  have S1 := hide s1; have S2 := hide s2; have S3 := hide s3; have S4 := hide s4; have S5 := hide s5; have S6 := hide s6
  clear s1 s2 s3 s4 s5 s6 h1 h2 h3 h4 h5' h6 HR
  have HWE := hide hW
  clear hW
  go_enter Tryz.func55, Tryz.ntmps55
  go_upto_region 1 with (fail)
  rw [← HWE.out]
  obtain ⟨a0, a1, a2, a3⟩ := At.z4 HA.out.at0; have la := HA.out.lt
  obtain ⟨b0, b1, b2, b3⟩ := At.z4 HB.out.at0; have lb := HB.out.lt
  obtain ⟨v0, v1, v2, v3⟩ := At.z4 HV.out.at0; have lv := HV.out.lt
  have hc : c = 0 ∨ c = 1 ∨ c = 2 ∨ c = 3 ∨ c = 4 ∨ c = 5 := by omega
  rcases hc with rfl | rfl | rfl | rfl | rfl | rfl
  · go_wp2_with fail
    refine (S1.out _).mono ?_
    rintro e w5 ⟨rfl, hs5⟩
    clear a0 a1 a2 a3 la b0 b1 b2 b3 lb v0 v1 v2 v3 lv
    obtain ⟨b0, b1, b2, b3⟩ := At.z4 (HB.out.fut (w' := w5)).at0; have lb := (HB.out.fut (w' := w5)).lt
    obtain ⟨v0, v1, v2, v3⟩ := At.z4 (HV.out.fut (w' := w5)).at0; have lv := (HV.out.fut (w' := w5)).lt
    cases r1
    · go_wp2_with fail
      go_ret
      exact ⟨rfl, Step.of⟩
    · go_wp2_with fail
      refine (S2.out _).mono ?_
      rintro e w6 ⟨rfl, hs6⟩
      go_wp2_with fail
      go_ret
      exact ⟨by simp, Step.of⟩
  · go_wp2_with fail
    refine (S3.out _).mono ?_
    rintro e w5 ⟨rfl, hs5⟩
    clear a0 a1 a2 a3 la b0 b1 b2 b3 lb v0 v1 v2 v3 lv
    obtain ⟨b0, b1, b2, b3⟩ := At.z4 (HB.out.fut (w' := w5)).at0; have lb := (HB.out.fut (w' := w5)).lt
    obtain ⟨v0, v1, v2, v3⟩ := At.z4 (HV.out.fut (w' := w5)).at0; have lv := (HV.out.fut (w' := w5)).lt
    cases r3
    · go_wp2_with fail
      refine (S4.out _).mono ?_
      rintro e w6 ⟨rfl, hs6⟩
      go_wp2_with fail
      go_ret
      exact ⟨by simp, Step.of⟩
    · go_wp2_with fail
      go_ret
      exact ⟨by simp, Step.of⟩
  · go_wp2_with fail
    refine (S5.out _).mono ?_
    rintro e w5 ⟨rfl, hs5⟩
    go_wp2_with fail
    go_ret
    exact ⟨by simp, Step.of⟩
  · go_wp2_with fail
    refine (S5.out _).mono ?_
    rintro e w5 ⟨rfl, hs5⟩
    go_wp2_with fail
    go_ret
    exact ⟨by simp, Step.of⟩
  · go_wp2_with fail
    refine (S6.out _).mono ?_
    rintro e w5 ⟨rfl, hs5⟩
    go_wp2_with fail
    go_ret
    exact ⟨by simp, Step.of⟩
  · go_wp2_with fail
    refine (S6.out _).mono ?_
    rintro e w5 ⟨rfl, hs5⟩
    go_wp2_with fail
    go_ret
    exact ⟨by simp, Step.of⟩

/-- One pair of truths more, if it may be. -/
def stepS (k : Int) (a b : Nat) (x y out : Nat) : Nat :=
  if a.testBit x && b.testBit y && (k != 3 || x == y) then orS out (ofT [(joinT k x y).toNat]) else out
def innerS (k : Int) (a b : Nat) (x : Nat) : Nat → Nat → Nat
  | 0, out => out
  | y + 1, out => stepS k a b x y (innerS k a b x y out)
def outerS (k : Int) (a b : Nat) : Nat → Nat
  | 0 => 0
  | x + 1 => innerS k a b x 3 (outerS k a b x)
def joinS (k : Int) (a b : Nat) : Nat := outerS k a b 3
theorem tr_nat {a : Int} (h : Tr a) : a = ((a.toNat : Nat) : Int) ∧ a.toNat < 3 := by rcases h with rfl | rfl | rfl <;> decide
theorem tr_of {x : Nat} (h : x < 3) : Tr (x : Int) := by rcases lt3 h with rfl | rfl | rfl <;> simp [Tr]
theorem ofT_one {t : Nat} (h : t < 3) : ofT [t] < 8 := ofT_lt _ (by simpa using h)
end Go.Proofs.YtcgpfllkbflbhaaGreatDoor
