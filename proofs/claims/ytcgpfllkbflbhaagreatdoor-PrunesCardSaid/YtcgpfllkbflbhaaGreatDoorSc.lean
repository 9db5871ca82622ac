/-
  Sets of truths: join.
-/
import Derived.Test.YtcgpfllkbflbhaaGreatDoorSb
namespace Go.Proofs.YtcgpfllkbflbhaaGreatDoor
open Go.RowKit

theorem SlAt.of_blk1 {w : World} {g : Nat} {e : TypeId} {size : Nat} {cs : List Value} {l : List (List Value)} (h : Blk w g e cs) (he : cs = l.flatten) (hf : ∀ x ∈ l, x.length = size) : SlAt w w.heap.size size (some ⟨g, 0, none⟩) l := by
  subst he
  exact SlAt.of_at h.at0 h.lt hf
theorem stepS_lt {k : Int} {a b x y out : Nat} (h : out < 8) : stepS k a b x y out < 8 := by
  unfold stepS
  split
  · exact orS_lt h (ofT_one (tr_nat (joinT_tr k x y)).2)
  · exact h
theorem innerS_lt {k : Int} {a b x : Nat} (y : Nat) {out : Nat} (h : out < 8) : innerS k a b x y out < 8 := by
  induction y with
  | zero => exact h
  | succ y ih => exact stepS_lt ih
theorem outerS_lt {k : Int} {a b : Nat} (x : Nat) : outerS k a b x < 8 := by
  induction x with
  | zero => exact (by decide : (0 : Nat) < 8)
  | succ x ih => exact innerS_lt 3 ih
theorem joinS_lt {k : Int} {a b : Nat} : joinS k a b < 8 := outerS_lt 3

set_option maxRecDepth 100000 in
set_option maxHeartbeats 8000000 in
/-- One slice of one truth, and of. -/
theorem pof_one (t : Nat) (w : World) (b : Nat) (h : Blk w b 3 [.int .i64 (t : Int)]) (ht : t < 3) :
    Calls Tryz.prog 28 #[.slice (some ⟨b, 0, none⟩) 1 1] w fun e w' => e = .returned (.int .u64 ((ofT [t] : Nat) : Int)) ∧ w = w' :=
  pset_any [t] (some ⟨b, 0, none⟩) 1 w (SlAt.of_blk1 (l := natCells [t]) h rfl (by intro x hx; simp [natCells] at hx; subst hx; rfl)) (by simp) (by simpa using ht)

set_option maxRecDepth 100000 in
set_option maxHeartbeats 8000000 in
theorem psjoin_any (k : Int) (a b : Nat) (w : World) (hk : k = 3 ∨ k = 4 ∨ k = 5) (ha : a < 8) (hb : b < 8) :
    Calls Tryz.prog 50 #[.int .i64 k, .int .u64 (a : Int), .int .u64 (b : Int)] w fun e w' => e = .returned (.int .u64 ((joinS k a b : Nat) : Int)) ∧ Step w w' := by
  have HK := hide hk
  clear hk
  go_enter Tryz.func50, Tryz.ntmps50
  go_wp2_with fail
  go_loopw [7, 8, 9, 10, 13] (fun out _ _ i _ wr => ∃ x : Nat, x ≤ 3 ∧ i = .int .i64 x ∧ out = .int .u64 ((outerS k a b x : Nat) : Int) ∧ Step w wr) (fun _ _ _ i _ _ => 3 - (intOf i).toNat)
  case atStart => exact ⟨0, by omega, rfl, rfl, Step.of⟩
  case round =>
    obtain ⟨x, hx, rfl, rfl, hst⟩ := hrel
    obtain ⟨wo, rfl⟩ : ∃ wo : World, wo = wr := ⟨_, rfl⟩
    by_cases hx3 : x < 3
    · have hxi : (x : Int) < 3 := by omega
      have HO8 := hide (outerS_lt (k := k) (a := a) (b := b) x)
      have HSU : Hid (outerS k a b (x + 1) = innerS k a b x 3 (outerS k a b x)) := hide rfl
      obtain ⟨o, ho⟩ : ∃ o, outerS k a b x = o := ⟨_, rfl⟩
      rw [ho] at HO8 HSU
      rw [ho]
      clear ho
      go_wp2_with fail
      go_loopw [7, 9, 13] (fun out _ j wr => ∃ y : Nat, y ≤ 3 ∧ j = .int .i64 y ∧ out = .int .u64 ((innerS k a b x y o : Nat) : Int) ∧ Step w wr) (fun _ _ j _ => 3 - (intOf j).toNat)
      case atStart => exact ⟨0, by omega, rfl, rfl, Step.of⟩
      case round =>
        obtain ⟨y, hy, rfl, rfl, hst2⟩ := hrel
        obtain ⟨wi, rfl⟩ : ∃ wi : World, wi = wr := ⟨_, rfl⟩
        by_cases hy3 : y < 3
        · have hyi : (y : Int) < 3 := by omega
          have HI8 := hide (innerS_lt (k := k) (a := a) (b := b) (x := x) y HO8.out)
          have HS : Hid (innerS k a b x (y + 1) o = stepS k a b x y (innerS k a b x y o)) := hide rfl
          obtain ⟨s, hs⟩ : ∃ s, innerS k a b x y o = s := ⟨_, rfl⟩
          rw [hs] at HI8 HS
          rw [hs]
          clear hs
          have HA1 := hide (fun w' => phas_any a x w' ha hx3)
          have HB1 := hide (fun w' => phas_any b y w' hb hy3)
          have hxy0 : ((x : Int) == (y : Int)) = (x == y) := by rcases lt3 hx3 with rfl | rfl | rfl <;> rcases lt3 hy3 with rfl | rfl | rfl <;> rfl
          obtain ⟨p, hp⟩ : ∃ p, a.testBit x = p := ⟨_, rfl⟩
          obtain ⟨q, hq⟩ : ∃ q, b.testBit y = q := ⟨_, rfl⟩
          obtain ⟨m, hm⟩ : ∃ m, (k != 3) = m := ⟨_, rfl⟩
          obtain ⟨n, hn⟩ : ∃ n, (x == y) = n := ⟨_, rfl⟩
          have hT := tr_nat (joinT_tr k x y)
          have PJ0 := fun w' => pjoin_any k x y w' HK.out (tr_of hx3) (tr_of hy3)
          rw [hT.1] at PJ0
          have ht3 := hT.2
          clear hT
          obtain ⟨t, ht⟩ : ∃ t, (joinT k x y).toNat = t := ⟨_, rfl⟩
          rw [ht] at PJ0 ht3
          have PJ := hide PJ0
          have HT3 := hide ht3
          rw [hp] at HA1; rw [hq] at HB1
          rw [hn] at hxy0
          have HR : Hid (stepS k a b x y s = if p && q && (m || n) then orS s (ofT [t]) else s) := by show _ = _; rw [stepS, hp, hq, hm, hn, ht]
          clear hp hq hn ht PJ0 ht3
          have o0 : ofT [0] = 1 := rfl
          have o1 : ofT [1] = 2 := rfl
          have o2 : ofT [2] = 4 := rfl
          cases p
          · go_wp2_with (first | (go_at_call 51; first | (with_reducible refine (HA1.out _).mono ?_; rintro e w' ⟨rfl, rfl⟩) | (with_reducible refine (HB1.out _).mono ?_; rintro e w' ⟨rfl, rfl⟩)))
            go_roundw
            case rel => exact ⟨y + 1, by omega, by go_num, by rw [HS.out, HR.out]; rfl, Step.of⟩
            case measure => simp [intOf]; omega
          · cases q
            · go_wp2_with (first | (go_at_call 51; first | (with_reducible refine (HA1.out _).mono ?_; rintro e w' ⟨rfl, rfl⟩) | (with_reducible refine (HB1.out _).mono ?_; rintro e w' ⟨rfl, rfl⟩)))
              go_roundw
              case rel => exact ⟨y + 1, by omega, by go_num, by rw [HS.out, HR.out]; rfl, Step.of⟩
              case measure => simp [intOf]; omega
            · cases m <;> cases n
              · go_wp2_with (first | (go_at_call 51; first | (with_reducible refine (HA1.out _).mono ?_; rintro e w' ⟨rfl, rfl⟩) | (with_reducible refine (HB1.out _).mono ?_; rintro e w' ⟨rfl, rfl⟩)))
                go_roundw
                case rel => exact ⟨y + 1, by omega, by go_num, by rw [HS.out, HR.out]; rfl, Step.of⟩
                case measure => simp [intOf]; omega
              all_goals
                go_wp2_with (first | (go_at_call 51; first | (with_reducible refine (HA1.out _).mono ?_; rintro e w' ⟨rfl, rfl⟩) | (with_reducible refine (HB1.out _).mono ?_; rintro e w' ⟨rfl, rfl⟩)) | (go_at_call 76; with_reducible refine (PJ.out _).mono ?_; rintro e w' ⟨rfl, rfl⟩))
                refine (pof_one t _ _ (Blk.new wi [.int .i64 (t : Int)] 3) HT3.out).mono ?_
                rintro e w' ⟨rfl, rfl⟩
                have ht3 := HT3.out
                have hs8 := HI8.out
                clear PJ HA1 HB1 HT3 HI8
                rcases lt3 ht3 with rfl | rfl | rfl <;> rcases lt8 hs8 with rfl | rfl | rfl | rfl | rfl | rfl | rfl | rfl
                all_goals
                  go_wp2_with fail
                  go_roundw
                  case rel => exact ⟨y + 1, by omega, by go_num, by rw [HS.out, HR.out]; rfl, Step.of⟩
                  case measure => simp [intOf]; omega
        · have hyi : ¬ (y : Int) < 3 := by omega
          have e3 : y = 3 := by omega
          subst e3
          go_wp2_with fail
          go_roundw
          case rel => exact ⟨x + 1, by omega, by go_num, by rw [HSU.out], Step.of⟩
          case measure => simp [intOf]; omega
    · have hxi : ¬ (x : Int) < 3 := by omega
      have e3 : x = 3 := by omega
      subst e3
      go_wp2_with fail
      go_ret
      exact ⟨rfl, Step.of⟩
end Go.Proofs.YtcgpfllkbflbhaaGreatDoor
