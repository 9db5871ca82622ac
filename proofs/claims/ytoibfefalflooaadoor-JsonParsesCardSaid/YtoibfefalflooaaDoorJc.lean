/-
  The program's parser: what it passes over.
-/
import Derived.Test.YtoibfefalflooaaDoorJb
import Derived.Deep.QuietTactic
namespace Go.Proofs.YtoibfefalflooaaDoor
open Go.RowKit

/-- The parser's text and place. -/
abbrev Pr (w : World) (g : Nat) (s : ByteArray) (i : Nat) : Prop := Blk w g 53 [.string s, .int .i64 i]
def posOf : Option Value → Nat | some (.int _ n) => n.toNat | _ => 0
theorem Pr.put {w : World} {g : Nat} {s : ByteArray} {i n : Nat} {j : Int} (h : Pr w g s i) (hj : j = (n : Int)) : Pr (w.setCell ⟨g, 1, none⟩ (.int .i64 j)) g s n := by
  subst hj
  exact h.set_ 1 (.int .i64 (n : Int))
theorem Pr.pos {w : World} {g : Nat} {s : ByteArray} {i : Nat} (h : Pr w g s i) : posOf (w.cell? ⟨g, 1, none⟩) = i := by
  rw [(At.z2 h.at0).2]
  exact Int.toNat_natCast i
def fault (c : Int) : Value := .iface 72 (.agg #[.int .i64 c])
theorem bad_any (w : World) : Calls Tryd.prog 23 #[] w fun e w' => e = .panicked [{ v := fault 300, recovered := false }] ∧ w' = w := by
  go_enter Tryd.func23, Tryd.ntmps23
  go_wp2
  exact ⟨rfl, rfl, rfl⟩

theorem Mv.fut {g : Nat} {w w' w'' : World} (h : Mv g w w') [k : Fut w' w''] : Mv g w w'' := grown_trans h ⟨k.below.os, k.below.tape, k.below.output, k.below.size, fun j hj _ => k.below.block j hj⟩

set_option maxRecDepth 100000 in
set_option maxHeartbeats 4000000 in
theorem jwhite_any (g : Nat) (s : ByteArray) (i : Nat) (w : World) (h : Pr w g s i) (hi : i ≤ s.size) (hs : s.size ≤ 65536) :
    Calls Tryd.prog 21 #[.pointer (some ⟨g, 0, none⟩)] w fun e w' => e = .returned (.tuple #[]) ∧ Pr w' g s (whiteE s i) ∧ Mv g w w' := by
  have HH := hide h
  clear h
  go_enter Tryd.func21, Tryd.ntmps21
  go_wp2_with fail
  go_loopw [] (fun wr => ∃ k : Nat, k ≤ s.size ∧ Hid (whiteE s k = whiteE s i) ∧ Pr wr g s k ∧ Mv g w wr) (fun wr => s.size - posOf (wr.cell? ⟨g, 1, none⟩))
  case atStart => exact ⟨i, hi, rfl, HH.out, World.grownBy.refl _ _⟩
  case round =>
    obtain ⟨k, hk, HW, hb, hm⟩ := hrel
    have HB := hide hb; have HM := hide hm
    obtain ⟨wo, rfl⟩ : ∃ x : World, x = wr := ⟨_, rfl⟩
    obtain ⟨q0, q1⟩ := At.z2 hb.at0
    have lq := hb.lt; have fq := hb.free
    clear hb hm
    by_cases hlt : k < s.size
    · have hkl : (k : Int) < (s.size : Int) := by omega
      have hk0 : (0 : Int) ≤ (k : Int) := by omega
      have hc := s[k].toNat_lt
      have hA := bA_at hlt
      cases hw : isW (bA s k) with
      | false =>
        have HE : Hid (whiteE s i = k) := by show _ = _; rw [← HW.out]; exact white_no hw
        rw [hA] at hw
        simp only [isW, Bool.or_eq_false_iff, beq_eq_false_iff_ne] at hw
        obtain ⟨⟨⟨h1, h2⟩, h3⟩, h4⟩ := hw
        have e1 : ((s[k].toNat : Int) == 32) = false := beq_eq_false_iff_ne.2 (by omega)
        have e2 : ((s[k].toNat : Int) == 9) = false := beq_eq_false_iff_ne.2 (by omega)
        have e3 : ((s[k].toNat : Int) == 10) = false := beq_eq_false_iff_ne.2 (by omega)
        have e4 : ((s[k].toNat : Int) == 13) = false := beq_eq_false_iff_ne.2 (by omega)
        clear h1 h2 h3 h4 hA
        go_wp2_with fail
        go_quiet (fail)
        go_wp2_with fail
        go_end0
        exact ⟨rfl, by rw [HE.out]; exact HB.out.fut, HM.out.fut⟩
      | true =>
        have HE : Hid (whiteE s (k + 1) = whiteE s i) := by show _ = _; rw [← HW.out]; exact (white_yes hw).symm
        rw [hA] at hw
        simp only [isW, Bool.or_eq_true, beq_iff_eq] at hw
        have hkn : (k : Int) + 1 ≤ 9223372036854775807 := by omega
        obtain ⟨x, hx⟩ : ∃ x : Int, (s[k].toNat : Int) = x := ⟨_, rfl⟩
        have hw2 : (x == 32) = true ∨ ((x == 32) = false ∧ (x == 9) = true) ∨ ((x == 32) = false ∧ (x == 9) = false ∧ (x == 10) = true) ∨ ((x == 32) = false ∧ (x == 9) = false ∧ (x == 10) = false ∧ (x == 13) = true) := by
          simp only [beq_iff_eq, beq_eq_false_iff_ne]
          omega
        rw [← hx] at hw2
        clear hw hA hx
        rcases hw2 with e1 | ⟨e1, e2⟩ | ⟨e1, e2, e3⟩ | ⟨e1, e2, e3, e4⟩
        all_goals
          go_wp2_with fail
          go_quiet (fail)
          go_wp2_with fail
          go_roundw
          case rel => exact ⟨k + 1, by omega, HE, (Pr.put (HB.out.fut (w' := wo.drewN nq)) (by omega)), (HM.out.fut (w'' := wo.drewN nq)).put _⟩
          case measure =>
            have h1 := Pr.pos (Pr.put (j := (k : Int) + 1) (n := k + 1) (HB.out.fut (w' := wo.drewN nq)) (by omega))
            have h2 := Pr.pos HB.out
            rw [h1, h2]
            omega
    · obtain rfl : k = s.size := by omega
      have HE : Hid (whiteE s i = s.size) := by show _ = _; rw [← HW.out]; exact white_no (by rw [bA_end (Nat.le_refl _)]; rfl)
      go_wp2_with fail
      go_quiet (fail)
      go_wp2_with fail
      go_end0
      exact ⟨rfl, by rw [HE.out]; exact HB.out.fut, HM.out.fut⟩
end Go.Proofs.YtoibfefalflooaaDoor
