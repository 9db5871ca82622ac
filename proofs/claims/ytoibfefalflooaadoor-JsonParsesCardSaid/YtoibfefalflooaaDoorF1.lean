/-
  The document's parser: fail, what it passes over, a word.
-/
import Derived.Test.YtoibfefalflooaaDoorJl
namespace Go.Proofs.YtoibfefalflooaaDoor
open Go.RowKit

/-- The document's parser: text, place, code. -/
abbrev Dp (w : World) (g : Nat) (s : ByteArray) (i : Nat) (c : Int) : Prop := Blk w g 57 [.string s, .int .i64 i, .int .i64 c]
theorem Dp.put {w : World} {g : Nat} {s : ByteArray} {i n : Nat} {c j : Int} (h : Dp w g s i c) (hj : j = (n : Int)) : Dp (w.setCell ⟨g, 1, none⟩ (.int .i64 j)) g s n c := by
  subst hj
  exact h.set_ 1 (.int .i64 (n : Int))
theorem Dp.pos {w : World} {g : Nat} {s : ByteArray} {i : Nat} {c : Int} (h : Dp w g s i c) : posOf (w.cell? ⟨g, 1, none⟩) = i := by
  rw [(At.z3 h.at0).2.1]
  exact Int.toNat_natCast i
theorem jl_inj {a b : ByteArray} (h : a.toList = b.toList) : a = b := by
  rw [ByteArray.toList_eq, ByteArray.toList_eq] at h
  exact ByteArray.ext (Array.toList_inj.1 h)
theorem i64_u8 (c : UInt8) : (0 : Int) ≤ (c.toNat : Int) ∧ (c.toNat : Int) < 256 := by have := c.toNat_lt; omega

set_option maxRecDepth 100000 in
set_option maxHeartbeats 4000000 in
theorem dfail_any (g : Nat) (s : ByteArray) (i : Nat) (c : Int) (w : World) (h : Dp w g s i 0) :
    Calls Tryd.prog 26 #[.pointer (some ⟨g, 0, none⟩), .int .i64 c] w fun e w' => e = .returned (.tuple #[]) ∧ Dp w' g s i c ∧ Mv g w w' := by
  have HB := hide h
  obtain ⟨q0, q1, q2⟩ := At.z3 h.at0
  have lq := h.lt; have fq := h.free
  clear h
  go_enter Tryd.func26, Tryd.ntmps26
  go_wp2_with fail
  go_end0
  exact ⟨rfl, HB.out.set_ 2 (.int .i64 c), Mv.put (World.grownBy.refl w (some g)) _⟩

set_option maxRecDepth 100000 in
set_option maxHeartbeats 4000000 in
theorem dwhite_any (g : Nat) (s : ByteArray) (i : Nat) (c : Int) (w : World) (h : Dp w g s i c) (hi : i ≤ s.size) (hs : s.size ≤ 65536) :
    Calls Tryd.prog 24 #[.pointer (some ⟨g, 0, none⟩)] w fun e w' => e = .returned (.tuple #[]) ∧ Dp w' g s (whiteE s i) c ∧ Mv g w w' := by
  have HH := hide h
  clear h
  go_enter Tryd.func24, Tryd.ntmps24
  go_wp2_with fail
  go_loopw [] (fun wr => ∃ k : Nat, k ≤ s.size ∧ Hid (whiteE s k = whiteE s i) ∧ Dp wr g s k c ∧ Mv g w wr) (fun wr => s.size - posOf (wr.cell? ⟨g, 1, none⟩))
  case atStart => exact ⟨i, hi, rfl, HH.out, World.grownBy.refl _ _⟩
  case round =>
    obtain ⟨k, hk, HW, hb, hm⟩ := hrel
    have HB := hide hb; have HM := hide hm
    obtain ⟨wo, rfl⟩ : ∃ x : World, x = wr := ⟨_, rfl⟩
    obtain ⟨q0, q1, q2⟩ := At.z3 hb.at0
    have lq := hb.lt; have fq := hb.free
    clear hb hm
    by_cases hlt : k < s.size
    · have hkl : (k : Int) < (s.size : Int) := by omega
      have hk0 : (0 : Int) ≤ (k : Int) := by omega
      have hc := s[k].toNat_lt
      have hA := bA_at hlt
      cases hw : isW (bA s k) with
      | false =>
        have HE : Hid (whiteE s i = k) := by show _ = _; rw [← HW.out]; exact white_no hw
        rw [hA] at hw
        simp only [isW, Bool.or_eq_false_iff, beq_eq_false_iff_ne] at hw
        obtain ⟨⟨⟨h1, h2⟩, h3⟩, h4⟩ := hw
        have e1 : ((s[k].toNat : Int) == 32) = false := beq_eq_false_iff_ne.2 (by omega)
        have e2 : ((s[k].toNat : Int) == 9) = false := beq_eq_false_iff_ne.2 (by omega)
        have e3 : ((s[k].toNat : Int) == 10) = false := beq_eq_false_iff_ne.2 (by omega)
        have e4 : ((s[k].toNat : Int) == 13) = false := beq_eq_false_iff_ne.2 (by omega)
        clear h1 h2 h3 h4 hA
        go_wp2_with fail
        go_quiet (fail)
        go_wp2_with fail
        go_end0
        exact ⟨rfl, by rw [HE.out]; exact HB.out.fut, HM.out.fut⟩
      | true =>
        have HE : Hid (whiteE s (k + 1) = whiteE s i) := by show _ = _; rw [← HW.out]; exact (white_yes hw).symm
        rw [hA] at hw
        simp only [isW, Bool.or_eq_true, beq_iff_eq] at hw
        have hkn : (k : Int) + 1 ≤ 9223372036854775807 := by omega
        obtain ⟨x, hx⟩ : ∃ x : Int, (s[k].toNat : Int) = x := ⟨_, rfl⟩
        have hw2 : (x == 32) = true ∨ ((x == 32) = false ∧ (x == 9) = true) ∨ ((x == 32) = false ∧ (x == 9) = false ∧ (x == 10) = true) ∨ ((x == 32) = false ∧ (x == 9) = false ∧ (x == 10) = false ∧ (x == 13) = true) := by
          simp only [beq_iff_eq, beq_eq_false_iff_ne]
          omega
        rw [← hx] at hw2
        clear hw hA hx
        rcases hw2 with e1 | ⟨e1, e2⟩ | ⟨e1, e2, e3⟩ | ⟨e1, e2, e3, e4⟩
        all_goals
          go_wp2_with fail
          go_quiet (fail)
          go_wp2_with fail
          go_roundw
          case rel => exact ⟨k + 1, by omega, HE, (Dp.put (HB.out.fut (w' := wo.drewN nq)) (by omega)), (HM.out.fut (w'' := wo.drewN nq)).put _⟩
          case measure =>
            have h1 := Dp.pos (Dp.put (j := (k : Int) + 1) (n := k + 1) (HB.out.fut (w' := wo.drewN nq)) (by omega))
            have h2 := Dp.pos HB.out
            rw [h1, h2]
            omega
    · obtain rfl : k = s.size := by omega
      have HE : Hid (whiteE s i = s.size) := by show _ = _; rw [← HW.out]; exact white_no (by rw [bA_end (Nat.le_refl _)]; rfl)
      go_wp2_with fail
      go_quiet (fail)
      go_wp2_with fail
      go_end0
      exact ⟨rfl, by rw [HE.out]; exact HB.out.fut, HM.out.fut⟩

theorem word_ext (s : ByteArray) : ∀ (l : List UInt8) (i : Nat), i + l.length ≤ s.size → (wordB s i l = true ↔ (s.data.toList.drop i).take l.length = l)
  | [], i, _ => by simp [wordB]
  | c :: r, i, h => by
    rw [List.length_cons] at h
    have hi : i < s.size := by omega
    have ih := word_ext s r (i + 1) (by omega)
    rw [wordB, dif_pos hi, list_at s hi, List.length_cons, List.take_succ_cons, Bool.and_eq_true, ih]
    simp
theorem word_no {s : ByteArray} {l : List UInt8} {i : Nat} (hi : i ≤ s.size) (h : s.size < i + l.length) : wordB s i l = false := by
  cases hb : wordB s i l with
  | false => rfl
  | true => have := word_len hi hb; omega
theorem word_ex {s t : ByteArray} {i : Nat} (h : i + t.size ≤ s.size) : wordB s i t.data.toList = decide (s.extract i (i + t.size) = t) := by
  have h1 := word_ext s t.data.toList i h
  have h2 : (s.data.toList.drop i).take t.data.toList.length = (s.extract i (i + t.size)).data.toList := (extract_list s i t.size).symm
  rw [h2] at h1
  cases hb : wordB s i t.data.toList with
  | true => rw [decide_eq_true]; exact ByteArray.ext (Array.toList_inj.1 (h1.1 hb))
  | false => rw [decide_eq_false]; intro e; rw [h1.2 (by rw [e])] at hb; cases hb

set_option maxRecDepth 100000 in
set_option maxHeartbeats 4000000 in
theorem dword_any (g : Nat) (s t : ByteArray) (i : Nat) (c : Int) (b : Bool) (w : World) (h : Dp w g s i c) (hi : i ≤ s.size) (hb : wordB s i t.data.toList = b) (hs : s.size ≤ 65536) (ht : t.size ≤ 100) :
    Calls Tryd.prog 37 #[.pointer (some ⟨g, 0, none⟩), .string t] w fun e w' => e = .returned (.bool b) ∧ Dp w' g s (if b = true then i + t.size else i) c ∧ Mv g w w' := by
  have HB := hide h
  obtain ⟨q0, q1, q2⟩ := At.z3 h.at0
  have lq := h.lt; have fq := h.free
  clear h
  have hsz : ((s.size : Int) - (i : Int)) ≤ 65536 := by omega
  have hsz0 : 0 ≤ (s.size : Int) - (i : Int) := by omega
  have m1 : ∀ nq, Mv g w (w.drewN nq) := fun nq => Mv.fut (w' := w) (World.grownBy.refl w (some g))
  have M1 := hide m1
  clear m1
  by_cases hl : i + t.size ≤ s.size
  · rw [word_ex hl] at hb
    have k1 : (s.size : Int) - (i : Int) ≥ (t.size : Int) := by omega
    have k2 : (i : Int) + (t.size : Int) = ((i + t.size : Nat) : Int) := by omega
    have k3 : (0 : Int) ≤ (i : Int) := by omega
    have k4 : (i : Int) ≤ ((i + t.size : Nat) : Int) := by omega
    have k5 : ((i + t.size : Nat) : Int) ≤ (s.size : Int) := by omega
    obtain ⟨m, hm⟩ : ∃ m, i + t.size = m := ⟨_, rfl⟩
    rw [hm] at k2 k4 k5 hb
    rw [hm]
    by_cases he : s.extract i m = t
    · obtain rfl : b = true := by rw [← hb]; exact decide_eq_true he
      have HM := hide hm
      clear hb hm hl
      go_enter Tryd.func37, Tryd.ntmps37
      go_wp2_with fail
      go_quiet (fail)
      go_wp2_with fail
      go_ret
      exact ⟨rfl, Dp.put (HB.out.fut (w' := w.drewN nq)) (by omega), (M1.out nq).put _⟩
    · obtain rfl : b = false := by rw [← hb]; exact decide_eq_false he
      have f1 : ((s.extract i m).toList == t.toList) = false := beq_eq_false_iff_ne.2 (fun e => he (jl_inj e))
      have f2 : ((s.extract i m).toList = t.toList) = False := eq_false (fun e => he (jl_inj e))
      clear hb hm hl he
      go_enter Tryd.func37, Tryd.ntmps37
      go_wp2_with fail
      go_quiet (fail)
      go_wp2_with fail
      go_ret
      exact ⟨rfl, HB.out.fut, M1.out nq⟩
  · obtain rfl : b = false := by rw [← hb]; exact word_no hi (by rw [show t.data.toList.length = t.size from rfl]; omega)
    have k1 : ¬ (s.size : Int) - (i : Int) ≥ (t.size : Int) := by omega
    have k2 : (s.size : Int) - (i : Int) < (t.size : Int) := by omega
    have k3 : decide ((t.size : Int) ≤ (s.size : Int) - (i : Int)) = false := decide_eq_false (by omega)
    have k4 : decide ((s.size : Int) - (i : Int) ≥ (t.size : Int)) = false := decide_eq_false (by omega)
    clear hb hl
    go_enter Tryd.func37, Tryd.ntmps37
    go_wp2_with fail
    go_quiet (fail)
    go_wp2_with fail
    go_ret
    exact ⟨rfl, HB.out.fut, M1.out nq⟩
end Go.Proofs.YtoibfefalflooaaDoor
