/-
  Sets of truths: of, has, join, opposite, some.
-/
import Derived.Test.YtcgpfllkbflbhaaGreatDoorPx
namespace Go.Proofs.YtcgpfllkbflbhaaGreatDoor
open Go.RowKit

theorem lt3 {t : Nat} (h : t < 3) : t = 0 ∨ t = 1 ∨ t = 2 := by omega
theorem lt8 {s : Nat} (h : s < 8) : s = 0 ∨ s = 1 ∨ s = 2 ∨ s = 3 ∨ s = 4 ∨ s = 5 ∨ s = 6 ∨ s = 7 := by omega
/-- A set of truths, and one truth more. -/
def orT (s t : Nat) : Nat := s ||| 2 ^ t
def orS (s t : Nat) : Nat := s ||| t
theorem orT_lt {s t : Nat} (hs : s < 8) (ht : t < 3) : orT s t < 8 := by
  rcases lt8 hs with rfl | rfl | rfl | rfl | rfl | rfl | rfl | rfl <;> rcases lt3 ht with rfl | rfl | rfl <;> decide
theorem orS_lt {s t : Nat} (hs : s < 8) (ht : t < 8) : orS s t < 8 := by
  rcases lt8 hs with rfl | rfl | rfl | rfl | rfl | rfl | rfl | rfl <;> rcases lt8 ht with rfl | rfl | rfl | rfl | rfl | rfl | rfl | rfl <;> decide
def ofT (l : List Nat) : Nat := l.foldl orT 0
theorem ofT_lt (l : List Nat) (h : ∀ t ∈ l, t < 3) : ofT l < 8 := by
  unfold ofT
  suffices ∀ (l : List Nat) (s : Nat), s < 8 → (∀ t ∈ l, t < 3) → l.foldl orT s < 8 from this l 0 (by decide) h
  intro l
  induction l with
  | nil => intro s hs _; exact hs
  | cons t l ih => intro s hs h; exact ih _ (orT_lt hs (h t (by simp))) (fun x hx => h x (by simp [hx]))
theorem ofT_snoc (l : List Nat) (t : Nat) : ofT (l ++ [t]) = orT (ofT l) t := by simp [ofT]
def natCells (l : List Nat) : List (List Value) := l.map fun (n : Nat) => [Value.int .i64 (n : Int)]

set_option maxRecDepth 100000 in
theorem phas_any (s t : Nat) (w : World) (hs : s < 8) (ht : t < 3) : Calls Tryz.prog 51 #[.int .u64 (s : Int), .int .i64 (t : Int)] w fun e w' => e = .returned (.bool (s.testBit t)) ∧ w = w' := by
  rcases lt8 hs with rfl | rfl | rfl | rfl | rfl | rfl | rfl | rfl <;> rcases lt3 ht with rfl | rfl | rfl
  all_goals
    go_enter Tryz.func51, Tryz.ntmps51
    go_wp2
    go_ret
    exact ⟨rfl, rfl⟩
def oppC (c : Int) : Int := if c = 0 then 1 else if c = 1 then 0 else if c = 2 then 5 else if c = 3 then 4 else if c = 4 then 3 else 2
set_option maxRecDepth 100000 in
theorem popp_any (c : Int) (w : World) (h0 : 0 ≤ c) (h5 : c ≤ 5) : Calls Tryz.prog 56 #[.int .i64 c] w fun e w' => e = .returned (.int .i64 (oppC c)) ∧ w = w' := by
  have i0 : ∀ w, (Instr.index 113 (.agg #[.int .i64 1, .int .i64 0, .int .i64 5, .int .i64 4, .int .i64 3, .int .i64 2]) (.int .i64 0)).run Tryz.prog w = .ok (.int .i64 1) w := fun _ => by kernel_rfl
  have i1 : ∀ w, (Instr.index 113 (.agg #[.int .i64 1, .int .i64 0, .int .i64 5, .int .i64 4, .int .i64 3, .int .i64 2]) (.int .i64 1)).run Tryz.prog w = .ok (.int .i64 0) w := fun _ => by kernel_rfl
  have i2 : ∀ w, (Instr.index 113 (.agg #[.int .i64 1, .int .i64 0, .int .i64 5, .int .i64 4, .int .i64 3, .int .i64 2]) (.int .i64 2)).run Tryz.prog w = .ok (.int .i64 5) w := fun _ => by kernel_rfl
  have i3 : ∀ w, (Instr.index 113 (.agg #[.int .i64 1, .int .i64 0, .int .i64 5, .int .i64 4, .int .i64 3, .int .i64 2]) (.int .i64 3)).run Tryz.prog w = .ok (.int .i64 4) w := fun _ => by kernel_rfl
  have i4 : ∀ w, (Instr.index 113 (.agg #[.int .i64 1, .int .i64 0, .int .i64 5, .int .i64 4, .int .i64 3, .int .i64 2]) (.int .i64 4)).run Tryz.prog w = .ok (.int .i64 3) w := fun _ => by kernel_rfl
  have i5 : ∀ w, (Instr.index 113 (.agg #[.int .i64 1, .int .i64 0, .int .i64 5, .int .i64 4, .int .i64 3, .int .i64 2]) (.int .i64 5)).run Tryz.prog w = .ok (.int .i64 2) w := fun _ => by kernel_rfl
  have : c = 0 ∨ c = 1 ∨ c = 2 ∨ c = 3 ∨ c = 4 ∨ c = 5 := by omega
  rcases this with rfl | rfl | rfl | rfl | rfl | rfl
  all_goals
    go_enter Tryz.func56, Tryz.ntmps56
    go_wp2
    go_ret
    exact ⟨rfl, rfl⟩

set_option maxRecDepth 100000 in
set_option maxHeartbeats 4000000 in
theorem pset_any {w0 : World} (l : List Nat) (A : Option Addr) (c : Nat) (w : World) (h : SlAt w0 w0.heap.size 1 A (natCells l)) [hf : Fut w0 w] (hl : l.length ≤ 4611686018427387904) (ht : ∀ t ∈ l, t < 3) :
    Calls Tryz.prog 28 #[.slice A l.length c] w fun e w' => e = .returned (.int .u64 ((ofT l : Nat) : Int)) ∧ w = w' := by
  have hB := hf.below.size
  have HT := hide ht
  clear ht
  go_enter Tryz.func28, Tryz.ntmps28
  go_wp2
  go_loop [3, 5, 8] (fun s _ i => ∃ k : Nat, k ≤ l.length ∧ i = .int .i64 k ∧ s = .int .u64 ((ofT (l.take k) : Nat) : Int)) (fun _ _ i => l.length - (intOf i).toNat)
  case atStart => exact ⟨0, Nat.zero_le _, rfl, rfl⟩
  case round =>
    obtain ⟨k, hk, rfl, rfl⟩ := hrel
    by_cases hlt : k < l.length
    · obtain ⟨b, off, rfl, hb, hc⟩ := h.elem hf (k := k) (by simpa [natCells] using hlt)
      have h1 := At.l1 (hc k [.int .i64 ((l[k] : Nat) : Int)] (by simp [natCells, hlt]))
      simp only [Nat.mul_one] at h1
      have hb' : b < w.heap.size := by omega
      clear hc
      have hs8 := ofT_lt (l.take k) (fun t hx => HT.out t (List.mem_of_mem_take hx))
      have ht3 := HT.out l[k] (List.getElem_mem hlt)
      have HN := hide (ofT_snoc (l.take k) l[k])
      have HTK : Hid (l.take (k + 1) = l.take k ++ [l[k]]) := by show _ = _; simp
      obtain ⟨t, hte⟩ : ∃ t, l[k] = t := ⟨_, rfl⟩
      obtain ⟨s, hse⟩ : ∃ s, ofT (l.take k) = s := ⟨_, rfl⟩
      rw [hte] at h1 ht3 HN HTK
      rw [hse] at hs8 HN
      rw [hse]
      have HSE := hide hse
      clear hse hte
      rcases lt8 hs8 with rfl | rfl | rfl | rfl | rfl | rfl | rfl | rfl <;> rcases lt3 ht3 with rfl | rfl | rfl
      all_goals
        go_wp2
        go_round
        case rel => exact ⟨k + 1, by omega, by go_num, by rw [HTK.out, HN.out]; rfl⟩
        case measure => simp [intOf]; omega
    · have HE : Hid (ofT (l.take k) = ofT l) := by show _ = _; rw [List.take_of_length_le (by omega)]
      rw [HE.out]
      go_wp2_with fail
      go_ret
      exact ⟨rfl, rfl⟩

def someB (c : Int) (least most v : Val) : Bool :=
  if c = 0 then standB 3 least v && standB 3 v most else if c = 1 then standB 1 least v || standB 1 most v
  else if c = 2 ∨ c = 3 then standB c least v else standB c most v
end Go.Proofs.YtcgpfllkbflbhaaGreatDoor
