/-
  The document's parser: a text.
-/
import Derived.Test.YtoibfefalflooaaDoorF4
import Derived.Test.YtoibfefalflooaaDoorYsj
namespace Go.Proofs.YtoibfefalflooaaDoor
open Go.RowKit

theorem rune_low {s : ByteArray} {k : Nat} (hk : k < s.size) (h : bA s k < 128) : runeT s k = ((bA s k : Int), 1) := by
  rw [runeT_at hk, runeC, ← bA_at hk, if_pos (by omega)]
theorem rune_high {s : ByteArray} {k : Nat} (hk : k < s.size) (h : 128 ≤ bA s k) : (runeT s k).2 = 0 ∨ 128 ≤ (runeT s k).1 := by
  have h1 := nextB_bd s (k + 1)
  have h2 := nextB_bd s (k + 2)
  have h3 := nextB_bd s (k + 3)
  rw [runeT_at hk, runeC, ← bA_at hk]
  repeat' split
  all_goals first | (left; rfl) | (right; show (128 : Int) ≤ _; dsimp only; omega) | omega
theorem rune_end_ {s : ByteArray} {k : Nat} (hk : s.size ≤ k) : runeT s k = (0, 0) := by rw [runeT, dif_neg (by omega)]
/-- Which byte a rune begins with. -/
theorem rune_byte {s : ByteArray} {k : Nat} {c : Nat} (hc : c < 128) (h0 : (runeT s k).2 ≠ 0) : ((runeT s k).1 = (c : Int) ↔ bA s k = c) ∧ k < s.size := by
  by_cases hk : k < s.size
  · refine ⟨?_, hk⟩
    by_cases hl : bA s k < 128
    · rw [rune_low hk hl]; constructor <;> intro h <;> omega
    · rcases rune_high hk (by omega) with h | h
      · exact absurd h h0
      · constructor <;> intro h <;> omega
  · rw [rune_end_ (by omega)] at h0; exact absurd rfl h0
def TextD (g : Nat) (s : ByteArray) (r : Option (ByteArray × Nat)) (e : Ending) (w' : World) : Prop :=
  match r with
  | some (t, j) => e = .returned (.string t) ∧ Dp w' g s j 0 ∧ j ≤ s.size
  | none => ∃ j, e = .returned (.string ⟨#[]⟩) ∧ Dp w' g s j 300 ∧ j ≤ s.size
def msrD (s : ByteArray) (g : Nat) (w : World) : Nat := if posOf (w.cell? ⟨g, 2, none⟩) = 0 then s.size + 1 - posOf (w.cell? ⟨g, 1, none⟩) else 0
theorem msr_ok {w : World} {g : Nat} {s : ByteArray} {i : Nat} (h : Dp w g s i 0) : msrD s g w = s.size + 1 - i := by
  unfold msrD
  rw [Dp.pos h, (At.z3 h.at0).2.2]
  rfl
theorem msr_bad {w : World} {g : Nat} {s : ByteArray} {i : Nat} (h : Dp w g s i 300) : msrD s g w = 0 := by
  unfold msrD
  rw [(At.z3 h.at0).2.2]
  rfl

set_option maxRecDepth 100000 in
set_option maxHeartbeats 16000000 in
theorem dtext_any (g : Nat) (s : ByteArray) (i : Nat) (w : World) (h : Dp w g s i 0) (hq : bA s i = 34) (hs : s.size ≤ 65536) :
    Calls Tryd.prog 38 #[.pointer (some ⟨g, 0, none⟩)] w fun e w' => TextD g s (textP s i) e w' ∧ Mv g w w' := by
  have HH := hide h
  have hlb := h.lt
  have hin : i < s.size := bA_lt (by omega)
  obtain ⟨R, hR⟩ : ∃ R, textN s (s.size + 1) (i + 1) [] = R := ⟨_, rfl⟩
  have HR : Hid (textP s i = R.map fun p => (ofL p.1, p.2)) := by show _ = _; rw [textP, if_pos hq, hR]; cases R <;> rfl
  have HT := hide hR
  obtain ⟨q0, q1, q2⟩ := At.z3 h.at0
  have lq := h.lt; have fq := h.free
  clear h hq hR
  go_enter Tryd.func38, Tryd.ntmps38
  go_upto_region 2 with fail
  have HB : Hid (Dp (w.setCell ⟨g, 1, none⟩ (.int .i64 ((i : Int) + 1))) g s (i + 1) 0) := Dp.put HH.out (by omega)
  have HM : Hid (Mv g w (w.setCell ⟨g, 1, none⟩ (.int .i64 ((i : Int) + 1)))) := Mv.put (World.grownBy.refl w (some g)) _
  obtain ⟨X, hX⟩ : ∃ x : World, x = w.setCell ⟨g, 1, none⟩ (.int .i64 ((i : Int) + 1)) := ⟨_, rfl⟩
  rw [← hX] at HB HM
  rw [← hX]
  clear hX q0 q1 q2 lq fq
  go_wp2_with fail
  go_loopw [3] (fun ov wr => Mv g w wr ∧ ((∃ (f k n c : Nat) (A : Option Addr) (l : List UInt8), i + 1 ≤ k ∧ k ≤ s.size ∧ s.size + 1 ≤ f + (k - i) ∧ ov = .slice A n c ∧ Hid (l.length = n) ∧ n ≤ 4 * k ∧ Hid (textN s f k l = R) ∧ Own wr w.heap.size 5 1 (.slice A n c) (byteCells l) ∧ Dp wr g s k 0) ∨ (∃ k, k ≤ s.size ∧ Hid (R = none) ∧ Dp wr g s k 300))) (fun _ wr => msrD s g wr)
  case atStart => exact ⟨HM.out, .inl ⟨s.size + 1, i + 1, 0, 0, none, [], by omega, by omega, by omega, rfl, rfl, by omega, HT.out, Own.nil_ _ _ _ _, HB.out⟩⟩
  case round =>
    obtain ⟨hmv, hcase⟩ := hrel
    clear HB HM
    have HM := hide hmv
    have hz := hmv.size
    clear hmv
    obtain ⟨wo, rfl⟩ : ∃ x : World, x = wr := ⟨_, rfl⟩
    rcases hcase with ⟨f, k, n, c, A, l, hik, hk, hf, rfl, HL, hn, HTX, hown, hb⟩ | ⟨k, hk, HN, hb⟩
    · have HB := hide hb; have HO := hide hown
      obtain ⟨q0, q1, q2⟩ := At.z3 hb.at0
      have lq := hb.lt; have fq := hb.free
      clear hb hown
      obtain ⟨f, rfl⟩ : ∃ q, f = q + 1 := ⟨f - 1, by omega⟩
      have RU := fun w' => rrune_any s (k : Int) w' (by omega)
      rw [show runeR s (k : Int) = runeT s k by rw [runeR, if_neg (by omega)]; rfl] at RU
      obtain ⟨hd0, hd1, hd2⟩ := runeT_bd s k
      have H34 := rune_byte (s := s) (k := k) (c := 34) (by decide)
      have H92 := rune_byte (s := s) (k := k) (c := 92) (by decide)
      have HQ := hide (textN_quote (s := s) (f := f) (i := k) (l := l))
      have HS := hide (textN_stroke (s := s) (f := f) (i := k) (l := l))
      have HBD := hide (textN_bad (s := s) (f := f) (i := k) (l := l))
      have HRU := hide (textN_rune (s := s) (f := f) (i := k) (l := l))
      have hlow : k < s.size → bA s k < 128 → runeT s k = ((bA s k : Int), 1) := fun h1 h2 => rune_low h1 h2
      obtain ⟨T, hT⟩ : ∃ T, runeT s k = T := ⟨_, rfl⟩
      rw [hT] at RU hd0 hd1 hd2 HBD HRU H34 H92 hlow
      clear hT
      obtain ⟨rr, nn⟩ := T
      simp only at RU hd0 hd1 hd2 H34 H92
      have RU := hide RU
      have hk0 : (0 : Int) ≤ (k : Int) := by omega
      have HBK := hide (bA_lt (s := s) (i := k))
      go_upto_region 4 with fail
      refine wp_region_held_drew (S := (fun w' => Step wo w' ∧ (∀ b o, b < wo.heap.size → w'.cell? ⟨b, o, none⟩ = wo.cell? ⟨b, o, none⟩))) (by kernel_rfl) (by (try dsimp only); (first | exact ⟨hS1, hS2⟩ | exact ⟨Step.of, (bcell (fut _ _)).1⟩)) (fun hHeld => ?_)
      refine wpAnyH_take (i := 0) (oi := ⟨some 19, _, _, _, _, _⟩) (v := ?_) rfl (by kernel_rfl) (by kernel_rfl) (by kernel_rfl) (fun _ _ _ h => h) (Or.inl ⟨by rfl, ?_⟩) (by assumption) ?_
      rotate_left
      · ((intro w hSw); (try dsimp only at hSw); go_simp; (try with_reducible rfl))
      (try simp only [Act.put, List.setIfInBounds_toArray, List.set_cons_zero, List.set_cons_succ])
      refine wpAnyH_take (i := 4) (oi := ⟨some 23, _, _, _, _, _⟩) (v := ?_) rfl (by kernel_rfl) (by kernel_rfl) (by kernel_rfl) (fun _ _ _ h => h) (Or.inl ⟨by rfl, ?_⟩) (by assumption) ?_
      rotate_left
      · ((intro w hSw); (try dsimp only at hSw); go_simp; (try with_reducible rfl))
      (try simp only [Act.put, List.setIfInBounds_toArray, List.set_cons_zero, List.set_cons_succ])
      refine wpAnyH_take (i := 1) (oi := ⟨some 20, _, _, _, _, _⟩) (v := ?_) rfl (by kernel_rfl) (by kernel_rfl) (by kernel_rfl) (fun _ _ _ h => h) (Or.inl ⟨by rfl, ?_⟩) (by assumption) ?_
      rotate_left
      · ((intro w hSw); (try dsimp only at hSw); go_simp; (try with_reducible rfl))
      (try simp only [Act.put, List.setIfInBounds_toArray, List.set_cons_zero, List.set_cons_succ])
      refine wpAnyH_take (i := 5) (oi := ⟨some 24, _, _, _, _, _⟩) (v := ?_) rfl (by kernel_rfl) (by kernel_rfl) (by kernel_rfl) (fun _ _ _ h => h) (Or.inl ⟨by rfl, ?_⟩) (by assumption) ?_
      rotate_left
      · ((intro w hSw); (try dsimp only at hSw); go_simp; (try with_reducible rfl))
      (try simp only [Act.put, List.setIfInBounds_toArray, List.set_cons_zero, List.set_cons_succ])
      refine wpAnyH_take (i := 2) (oi := ⟨some 21, _, _, _, _, _⟩) (v := ?_) rfl (by kernel_rfl) (by kernel_rfl) (by kernel_rfl) (fun _ _ _ h => h) (Or.inl ⟨by rfl, ?_⟩) (by assumption) ?_
      rotate_left
      · ((intro w hSw); (try dsimp only at hSw); go_simp; (try with_reducible rfl))
      (try simp only [Act.put, List.setIfInBounds_toArray, List.set_cons_zero, List.set_cons_succ])
      refine wpAnyH_take (i := 6) (oi := ⟨some 25, _, _, _, _, _⟩) (v := ?_) rfl (by kernel_rfl) (by kernel_rfl) (by kernel_rfl) (fun _ _ _ h => h) (Or.inl ⟨by rfl, ?_⟩) (by assumption) ?_
      rotate_left
      · ((intro w hSw); (try dsimp only at hSw); go_simp; (try with_reducible rfl))
      (try simp only [Act.put, List.setIfInBounds_toArray, List.set_cons_zero, List.set_cons_succ])
      refine wpAnyH_take (i := 3) (oi := ⟨some 22, _, _, _, _, _⟩) (v := ?_) rfl (by kernel_rfl) (by kernel_rfl) (by kernel_rfl) (fun _ _ _ h => h) (Or.inl ⟨by rfl, ?_⟩) (by assumption) ?_
      rotate_left
      · ((intro w hSw); (try dsimp only at hSw); go_simp; (try with_reducible rfl))
      (try simp only [Act.put, List.setIfInBounds_toArray, List.set_cons_zero, List.set_cons_succ])
      refine wpAnyH_take (i := 7) (oi := ⟨some 26, _, _, _, _, _⟩) (v := ?_) rfl (by kernel_rfl) (by kernel_rfl) (by kernel_rfl) (fun _ _ _ h => h) (Or.inl ⟨by rfl, ?_⟩) (by assumption) ?_
      rotate_left
      · ((intro w hSw); (try dsimp only at hSw); go_simp; (try with_reducible rfl))
      (try simp only [Act.put, List.setIfInBounds_toArray, List.set_cons_zero, List.set_cons_succ])
      refine wpAnyH_ready (rs := [8]) (by kernel_rfl) (by simp) ?_
      refine AllReadyH.cons (o := ⟨some 27, _, _, _, _, _⟩) rfl (fun K hK => ?_) AllReadyH.nil
      obtain ⟨hS1, hS2⟩ := hHeld
      go_simp
      (go_at_call 55; (with_reducible refine (RU.out _).mono ?_); rintro e w8 ⟨rfl, hs8⟩)
      refine hK.out _ _ (by (try dsimp only); (first | exact ⟨hS1, hS2⟩ | exact ⟨Step.of, (bcell (fut _ _)).1⟩)) (fun hHeld => ?_)
      clear hK K
      (try simp only [Act.put, List.setIfInBounds_toArray, List.set_cons_zero, List.set_cons_succ])
      refine wpAnyH_take (i := 9) (oi := ⟨some 18, _, _, _, _, _⟩) (v := ?_) rfl (by kernel_rfl) (by kernel_rfl) (by kernel_rfl) (fun _ _ _ h => h) (Or.inl ⟨by rfl, ?_⟩) (by assumption) ?_
      rotate_left
      · ((intro w hSw); (try dsimp only at hSw); go_simp; (try with_reducible rfl))
      (try simp only [Act.put, List.setIfInBounds_toArray, List.set_cons_zero, List.set_cons_succ])
      refine wpAnyH_take (i := 10) (oi := ⟨some 28, _, _, _, _, _⟩) (v := ?_) rfl (by kernel_rfl) (by kernel_rfl) (by kernel_rfl) (fun _ _ _ h => h) (Or.inl ⟨by rfl, ?_⟩) (by assumption) ?_
      rotate_left
      · ((intro w hSw); (try dsimp only at hSw); go_simp; (try with_reducible rfl))
      (try simp only [Act.put, List.setIfInBounds_toArray, List.set_cons_zero, List.set_cons_succ])
      refine wpAnyH_take (i := 11) (oi := ⟨some 29, _, _, _, _, _⟩) (v := ?_) rfl (by kernel_rfl) (by kernel_rfl) (by kernel_rfl) (fun _ _ _ h => h) (Or.inl ⟨by rfl, ?_⟩) (by assumption) ?_
      rotate_left
      · ((intro w hSw); (try dsimp only at hSw); go_simp; (try with_reducible rfl))
      (try simp only [Act.put, List.setIfInBounds_toArray, List.set_cons_zero, List.set_cons_succ])
      refine wpAnyH_take (i := 12) (oi := ⟨some 4, _, _, _, _, _⟩) (v := ?_) rfl (by kernel_rfl) (by kernel_rfl) (by kernel_rfl) (fun _ _ _ h => h) (Or.inl ⟨by rfl, ?_⟩) (by assumption) ?_
      rotate_left
      · ((intro w hSw); (try dsimp only at hSw); go_simp; (try with_reducible rfl))
      (try simp only [Act.put, List.setIfInBounds_toArray, List.set_cons_zero, List.set_cons_succ])
      refine wpAnyH_take (i := 13) (oi := ⟨some 5, _, _, _, _, _⟩) (v := ?_) rfl (by kernel_rfl) (by kernel_rfl) (by kernel_rfl) (fun _ _ _ h => h) (Or.inl ⟨by rfl, ?_⟩) (by assumption) ?_
      rotate_left
      · ((intro w hSw); (try dsimp only at hSw); go_simp; (try with_reducible rfl))
      (try simp only [Act.put, List.setIfInBounds_toArray, List.set_cons_zero, List.set_cons_succ])
      refine wpAnyH_done (by kernel_rfl) ?_ _
      have HB8 := hide (HB.out.fut (w' := w8))
      have HO8 := hide (HO.out.fut (w' := w8))
      have HM8 : Hid (Mv g w w8) := Mv.fut HM.out
      have hz8 := HM8.out.size
      clear q0 q1 q2 lq fq
      obtain ⟨q0, q1, q2⟩ := At.z3 HB8.out.at0
      have lq := HB8.out.lt
      have fq := HB8.out.free
      by_cases hbad : nn = 0 ∨ rr < 32
      · have hnq : bA s k ≠ 34 ∧ bA s k ≠ 92 := by
          constructor
          all_goals
            intro e
            have h1 := hlow (HBK.out (by omega)) (by omega)
            injection h1 with h1 h2
            omega
        have HRN : Hid (R = none) := by show _ = _; rw [← HTX.out]; exact HBD.out hnq hbad
        have hb2 : (nn == 0) = true ∨ ((nn == 0) = false ∧ rr < 32) := by
          by_cases h0 : nn = 0
          · exact .inl (beq_iff_eq.2 h0)
          · exact .inr ⟨beq_eq_false_iff_ne.2 h0, by omega⟩
        clear hbad hnq H34 H92 hlow hd2
        rcases hb2 with hb2 | ⟨hb2, hb3⟩
        all_goals
          go_wp2_with (go_at_call 26; (with_reducible refine (dfail_any g s _ 300 _ HB8.out.fut).mono ?_); rintro e w9 ⟨rfl, hp9, hm9⟩; have HP9 := hide hp9; have HM9 := hide hm9; clear hp9 hm9)
          go_roundw
          case rel => exact ⟨grown_trans HM8.out HM9.out, .inr ⟨_, hk, HRN, HP9.out⟩⟩
          case measure => rw [msr_bad HP9.out, msr_ok HB.out]; omega
      have hnn : (nn == 0) = false := beq_eq_false_iff_ne.2 (by omega)
      have hrr : ¬ rr < 32 := by omega
      obtain ⟨h34, hks⟩ := H34 (by omega)
      obtain ⟨h92, _⟩ := H92 (by omega)
      clear hlow
      by_cases hq : bA s k = 34
      · have HRS : Hid (R = some (l, k + 1)) := by show _ = _; rw [← HTX.out]; exact HQ.out hq
        have hr34 : rr = 34 := by have := h34.2 hq; omega
        clear hbad H34 H92 h34 h92 hq
        subst hr34
        go_upto_region 11 with fail
        have HB7 : Hid (Dp (w8.setCell ⟨g, 1, none⟩ (.int .i64 ((k : Int) + 1))) g s (k + 1) 0) := Dp.put HB8.out (by omega)
        have HM7 : Hid (Mv g w (w8.setCell ⟨g, 1, none⟩ (.int .i64 ((k : Int) + 1)))) := HM8.out.put _
        have HO7 : Hid (Own (w8.setCell ⟨g, 1, none⟩ (.int .i64 ((k : Int) + 1))) w.heap.size 5 1 (.slice A n c) (byteCells l)) := HO8.out.set_other HB8.out (by decide) 1 _
        obtain ⟨X, hX⟩ : ∃ x : World, x = w8.setCell ⟨g, 1, none⟩ (.int .i64 ((k : Int) + 1)) := ⟨_, rfl⟩
        rw [← hX] at HB7 HM7 HO7
        rw [← hX]
        clear hX q0 q1 q2 lq fq
        have hcv := bytes_convE (c := c) (HO7.out.sl (byte_fit _).len) HL.out
        have HRT : Hid (textP s i = some (ofL l, k + 1)) := by show _ = _; rw [HR.out, HRS.out]; rfl
        obtain ⟨t, ht⟩ : ∃ t, ofL l = t := ⟨_, rfl⟩
        rw [ht] at hcv HRT
        clear ht
        go_wp2_with fail
        go_ret
        exact ⟨by rw [HRT.out]; exact ⟨rfl, HB7.out.fut, by omega⟩, Mv.fut HM7.out⟩
      have hrq : (rr == 34) = false := beq_eq_false_iff_ne.2 (fun e => hq (h34.1 (by omega)))
      by_cases hst : bA s k = 92
      · have hr92 : rr = 92 := by have := h92.2 hst; omega
        have hkn : k + 1 ≤ s.size := by omega
        have HTS : Hid ((match escP s (k + 1) with | none => none | some (m, j) => textN s f j (l ++ m)) = R) := by show _ = _; rw [← HTX.out]; exact (HS.out hst).symm
        have ES0 := fun w' (hp : Dp w' g s (k + 1) 0) => desc_any g s (k + 1) w' hp hkn hs
        clear hbad H34 H92 h34 h92 hq hst
        subst hr92
        go_upto_region 14 with fail
        have HB7 : Hid (Dp (w8.setCell ⟨g, 1, none⟩ (.int .i64 ((k : Int) + 1))) g s (k + 1) 0) := Dp.put HB8.out (by omega)
        have HM7 : Hid (Mv g w (w8.setCell ⟨g, 1, none⟩ (.int .i64 ((k : Int) + 1)))) := HM8.out.put _
        have HO7 : Hid (Own (w8.setCell ⟨g, 1, none⟩ (.int .i64 ((k : Int) + 1))) w.heap.size 5 1 (.slice A n c) (byteCells l)) := HO8.out.set_other HB8.out (by decide) 1 _
        obtain ⟨X, hX⟩ : ∃ x : World, x = w8.setCell ⟨g, 1, none⟩ (.int .i64 ((k : Int) + 1)) := ⟨_, rfl⟩
        rw [← hX] at HB7 HM7 HO7
        rw [← hX]
        clear hX q0 q1 q2 lq fq
        have hz7 := HM7.out.size
        cases he : escP s (k + 1) with
        | none =>
          have HRN : Hid (R = none) := by show _ = _; rw [← HTS.out, he]
          rw [he] at ES0
          have ES : Hid (∀ w', Dp w' g s (k + 1) 0 → Calls Tryd.prog 56 #[.pointer (some ⟨g, 0, none⟩)] w' fun e w'' => (∃ j, e = .returned (.string ⟨#[]⟩) ∧ Dp w'' g s j 300 ∧ j ≤ s.size) ∧ Mv g w' w'') := ES0
          clear he HTS HTX ES0
          go_wp2_with (first | (go_at_call 56; (with_reducible refine (ES.out _ HB7.out).mono ?_); rintro e w5 ⟨⟨j, rfl, hb5, hj5⟩, hm5⟩; have HO5 := hide (HO7.out.grown_other hm5 (fun q hq hh => by have := (HO7.out.lt q hq).1; injection hh with hh; omega)); have HB5 := hide hb5; have HM5 := hide (grown_trans HM7.out hm5); have hz5 := Nat.le_trans hz7 hm5.size; clear hb5 hm5) | (at_builtin; go_loud (refine wpList_append_str rfl (.tmp 87) (.tmp 89) rfl (base := w.heap.size) (l := l) rfl HO5.out (s := ⟨#[]⟩) rfl (by rw [HL.out]; show n + 0 ≤ _; omega) hz5 (N := n) (by rw [HL.out]; rfl) ?_; intro A7 c7 w7 hown7 hgr7 hbel7; have HB9 := hide (HB5.out.below hbel7 hlb); have HM9 := hide (Mv.down HM5.out hbel7); clear hown7 hgr7 hbel7)))
          go_roundw
          case rel => exact ⟨HM9.out, .inr ⟨j, hj5, HRN, HB9.out⟩⟩
          case measure => rw [msr_bad HB9.out, msr_ok HB.out]; omega
        | some mj =>
          obtain ⟨m, j⟩ := mj
          obtain ⟨he1, he2⟩ := esc_len he
          have HTJ : Hid (textN s f j (l ++ m) = R) := by have := HTS.out; rw [he] at this; exact this
          rw [he] at ES0
          have ES : Hid (∀ w', Dp w' g s (k + 1) 0 → Calls Tryd.prog 56 #[.pointer (some ⟨g, 0, none⟩)] w' fun e w'' => (e = .returned (.string (ofL m)) ∧ Dp w'' g s j 0 ∧ j ≤ s.size) ∧ Mv g w' w'') := ES0
          have HMS : Hid ((ofL m).size = m.length) := ofL_size m
          have HML : Hid ((ofL m).data.toList = m) := ofL_list m
          obtain ⟨t, ht⟩ : ∃ t, ofL m = t := ⟨_, rfl⟩
          rw [ht] at ES HMS HML
          clear he HTS HTX ht ES0
          go_wp2_with (first | (go_at_call 56; (with_reducible refine (ES.out _ HB7.out).mono ?_); rintro e w5 ⟨⟨rfl, hb5, hj5⟩, hm5⟩; have HO5 := hide (HO7.out.grown_other hm5 (fun q hq hh => by have := (HO7.out.lt q hq).1; injection hh with hh; omega)); have HB5 := hide hb5; have HM5 := hide (grown_trans HM7.out hm5); have hz5 := Nat.le_trans hz7 hm5.size; clear hb5 hm5) | (at_builtin; go_loud (refine wpList_append_str rfl (.tmp 87) (.tmp 89) rfl (base := w.heap.size) (l := l) rfl HO5.out (s := t) rfl (by rw [HL.out, HMS.out]; omega) hz5 (N := n + m.length) (by rw [HL.out, HMS.out]) ?_; intro A7 c7 w7 hown7 hgr7 hbel7; have H7 := hide hown7; have HB9 := hide (HB5.out.below hbel7 hlb); have HM9 := hide (Mv.down HM5.out hbel7); clear hown7 hgr7 hbel7)))
          go_roundw
          case rel => exact ⟨HM9.out, .inl ⟨f, j, n + m.length, c7, A7, l ++ m, by omega, hj5, by omega, rfl, by show _ = _; rw [List.length_append, HL.out], by omega, HTJ.out, by have h_ := H7.out; rw [HML.out] at h_; exact h_, HB9.out⟩⟩
          case measure => rw [msr_ok HB9.out, msr_ok HB.out]; omega
      have hrs : (rr == 92) = false := beq_eq_false_iff_ne.2 (fun e => hst (h92.1 (by omega)))
      obtain ⟨m, rfl⟩ : ∃ m : Nat, nn = m := ⟨nn.toNat, by omega⟩
      have hkm : k + m ≤ s.size := by have := hd2 (by omega); simpa using this
      have hm1 : 0 < m := by omega
      have hm4 : m ≤ 4 := by omega
      have HTN : Hid (textN s f (k + m) (l ++ (s.data.toList.drop k).take m) = R) := by have := HRU.out ⟨hq, hst⟩ hbad; rw [HTX.out] at this; exact this.symm
      have HEX : Hid ((s.extract k (k + m)).size = m) := by show _ = _; rw [ByteArray.size_extract]; omega
      have HEL : Hid ((s.extract k (k + m)).data.toList = (s.data.toList.drop k).take m) := extract_list s k m
      clear hbad HBD HRU hd0 hd1 hd2 HTX H34 H92 h34 h92 hq hst HQ HS
      obtain ⟨km, hkme⟩ : ∃ km, km = k + m := ⟨_, rfl⟩
      rw [← hkme] at HTN HEX HEL hkm
      have hwr : IntKind.i64.wrap ((k : Int) + (m : Int)) = (km : Int) := by rw [IntKind.wrap_i64]; omega
      have hx1 : (0 : Int) ≤ (km : Int) := by omega
      have hx2 : (k : Int) ≤ (km : Int) := by omega
      have hx3 : (km : Int) ≤ (s.size : Int) := by omega
      have HKM := hide hkme
      clear hkme
      go_upto_region 5 with fail
      refine wp_region_held_drew (S := (fun w' => Below w.heap.size w8 w' ∧ (∀ b o, b < w.heap.size → w'.cell? ⟨b, o, none⟩ = w8.cell? ⟨b, o, none⟩))) (by kernel_rfl) (by (try dsimp only); (first | exact ⟨hS1, hS2⟩ | exact ⟨(fut w8 _).mono hz8, fun b o h => ((fut w8 _).mono hz8).cell (p := ⟨b, o, none⟩) h⟩)) (fun hHeld => ?_)
      refine wpAnyH_take (i := 0) (oi := ⟨some 30, _, _, _, _, _⟩) (v := ?_) rfl (by kernel_rfl) (by kernel_rfl) (by kernel_rfl) (fun _ _ _ h => h) (Or.inl ⟨by rfl, ?_⟩) (by assumption) ?_
      rotate_left
      · ((intro w hSw); (try dsimp only at hSw); go_simp; (try with_reducible rfl))
      (try simp only [Act.put, List.setIfInBounds_toArray, List.set_cons_zero, List.set_cons_succ])
      refine wpAnyH_take (i := 1) (oi := ⟨some 31, _, _, _, _, _⟩) (v := ?_) rfl (by kernel_rfl) (by kernel_rfl) (by kernel_rfl) (fun _ _ _ h => h) (Or.inl ⟨by rfl, ?_⟩) (by assumption) ?_
      rotate_left
      · ((intro w hSw); (try dsimp only at hSw); go_simp; (try with_reducible rfl))
      (try simp only [Act.put, List.setIfInBounds_toArray, List.set_cons_zero, List.set_cons_succ])
      refine wpAnyH_take (i := 5) (oi := ⟨some 35, _, _, _, _, _⟩) (v := ?_) rfl (by kernel_rfl) (by kernel_rfl) (by kernel_rfl) (fun _ _ _ h => h) (Or.inl ⟨by rfl, ?_⟩) (by assumption) ?_
      rotate_left
      · ((intro w hSw); (try dsimp only at hSw); go_simp; (try with_reducible rfl))
      (try simp only [Act.put, List.setIfInBounds_toArray, List.set_cons_zero, List.set_cons_succ])
      refine wpAnyH_take (i := 9) (oi := ⟨some 39, _, _, _, _, _⟩) (v := ?_) rfl (by kernel_rfl) (by kernel_rfl) (by kernel_rfl) (fun _ _ _ h => h) (Or.inl ⟨by rfl, ?_⟩) (by assumption) ?_
      rotate_left
      · ((intro w hSw); (try dsimp only at hSw); go_simp; (try with_reducible rfl))
      (try simp only [Act.put, List.setIfInBounds_toArray, List.set_cons_zero, List.set_cons_succ])
      refine wpAnyH_take (i := 13) (oi := ⟨some 43, _, _, _, _, _⟩) (v := ?_) rfl (by kernel_rfl) (by kernel_rfl) (by kernel_rfl) (fun _ _ _ h => h) (Or.inl ⟨by rfl, ?_⟩) (by assumption) ?_
      rotate_left
      · ((intro w hSw); (try dsimp only at hSw); go_simp; (try with_reducible rfl))
      (try simp only [Act.put, List.setIfInBounds_toArray, List.set_cons_zero, List.set_cons_succ])
      refine wpAnyH_take (i := 2) (oi := ⟨some 32, _, _, _, _, _⟩) (v := ?_) rfl (by kernel_rfl) (by kernel_rfl) (by kernel_rfl) (fun _ _ _ h => h) (Or.inl ⟨by rfl, ?_⟩) (by assumption) ?_
      rotate_left
      · ((intro w hSw); (try dsimp only at hSw); go_simp; (try with_reducible rfl))
      (try simp only [Act.put, List.setIfInBounds_toArray, List.set_cons_zero, List.set_cons_succ])
      refine wpAnyH_take (i := 6) (oi := ⟨some 36, _, _, _, _, _⟩) (v := ?_) rfl (by kernel_rfl) (by kernel_rfl) (by kernel_rfl) (fun _ _ _ h => h) (Or.inl ⟨by rfl, ?_⟩) (by assumption) ?_
      rotate_left
      · ((intro w hSw); (try dsimp only at hSw); go_simp; (try with_reducible rfl))
      (try simp only [Act.put, List.setIfInBounds_toArray, List.set_cons_zero, List.set_cons_succ])
      refine wpAnyH_take (i := 10) (oi := ⟨some 40, _, _, _, _, _⟩) (v := ?_) rfl (by kernel_rfl) (by kernel_rfl) (by kernel_rfl) (fun _ _ _ h => h) (Or.inl ⟨by rfl, ?_⟩) (by assumption) ?_
      rotate_left
      · ((intro w hSw); (try dsimp only at hSw); go_simp; (try with_reducible rfl))
      (try simp only [Act.put, List.setIfInBounds_toArray, List.set_cons_zero, List.set_cons_succ])
      refine wpAnyH_take (i := 3) (oi := ⟨some 33, _, _, _, _, _⟩) (v := ?_) rfl (by kernel_rfl) (by kernel_rfl) (by kernel_rfl) (fun _ _ _ h => h) (Or.inl ⟨by rfl, ?_⟩) (by assumption) ?_
      rotate_left
      · ((intro w hSw); (try dsimp only at hSw); go_simp; (try with_reducible rfl))
      (try simp only [Act.put, List.setIfInBounds_toArray, List.set_cons_zero, List.set_cons_succ])
      refine wpAnyH_take (i := 7) (oi := ⟨some 37, _, _, _, _, _⟩) (v := ?_) rfl (by kernel_rfl) (by kernel_rfl) (by kernel_rfl) (fun _ _ _ h => h) (Or.inl ⟨by rfl, ?_⟩) (by assumption) ?_
      rotate_left
      · ((intro w hSw); (try dsimp only at hSw); go_simp; (try with_reducible rfl))
      (try simp only [Act.put, List.setIfInBounds_toArray, List.set_cons_zero, List.set_cons_succ])
      refine wpAnyH_take (i := 11) (oi := ⟨some 41, _, _, _, _, _⟩) (v := ?_) rfl (by kernel_rfl) (by kernel_rfl) (by kernel_rfl) (fun _ _ _ h => h) (Or.inl ⟨by rfl, ?_⟩) (by assumption) ?_
      rotate_left
      · ((intro w hSw); (try dsimp only at hSw); go_simp; (try with_reducible rfl))
      (try simp only [Act.put, List.setIfInBounds_toArray, List.set_cons_zero, List.set_cons_succ])
      refine wpAnyH_take (i := 4) (oi := ⟨some 34, _, _, _, _, _⟩) (v := ?_) rfl (by kernel_rfl) (by kernel_rfl) (by kernel_rfl) (fun _ _ _ h => h) (Or.inl ⟨by rfl, ?_⟩) (by assumption) ?_
      rotate_left
      · ((intro w hSw); (try dsimp only at hSw); go_simp; (try with_reducible rfl))
      (try simp only [Act.put, List.setIfInBounds_toArray, List.set_cons_zero, List.set_cons_succ])
      refine wpAnyH_take (i := 8) (oi := ⟨some 38, _, _, _, _, _⟩) (v := ?_) rfl (by kernel_rfl) (by kernel_rfl) (by kernel_rfl) (fun _ _ _ h => h) (Or.inl ⟨by rfl, ?_⟩) (by assumption) ?_
      rotate_left
      · ((intro w hSw); (try dsimp only at hSw); go_simp; (try with_reducible rfl))
      (try simp only [Act.put, List.setIfInBounds_toArray, List.set_cons_zero, List.set_cons_succ])
      refine wpAnyH_take (i := 12) (oi := ⟨some 42, _, _, _, _, _⟩) (v := ?_) rfl (by kernel_rfl) (by kernel_rfl) (by kernel_rfl) (fun _ _ _ h => h) (Or.inl ⟨by rfl, ?_⟩) (by assumption) ?_
      rotate_left
      · ((intro w hSw); (try dsimp only at hSw); go_simp; (try with_reducible rfl))
      (try simp only [Act.put, List.setIfInBounds_toArray, List.set_cons_zero, List.set_cons_succ])
      refine wpAnyH_take (i := 14) (oi := ⟨some 44, _, _, _, _, _⟩) (v := ?_) rfl (by kernel_rfl) (by kernel_rfl) (by kernel_rfl) (fun _ _ _ h => h) (Or.inl ⟨by rfl, ?_⟩) (by assumption) ?_
      rotate_left
      · ((intro w hSw); (try dsimp only at hSw); go_simp; (try with_reducible rfl))
      (try simp only [Act.put, List.setIfInBounds_toArray, List.set_cons_zero, List.set_cons_succ])
      refine wpAnyH_take (i := 15) (oi := ⟨some 45, _, _, _, _, _⟩) (v := ?_) rfl (by kernel_rfl) (by kernel_rfl) (by kernel_rfl) (fun _ _ _ h => h) (Or.inl ⟨by rfl, ?_⟩) (by assumption) ?_
      rotate_left
      · ((intro w hSw); (try dsimp only at hSw); go_simp; (try with_reducible rfl))
      (try simp only [Act.put, List.setIfInBounds_toArray, List.set_cons_zero, List.set_cons_succ])
      refine wpAnyH_ready (rs := [16]) (by kernel_rfl) (by simp) ?_
      refine AllReadyH.cons (o := ⟨some 46, _, _, _, _, _⟩) rfl (fun K hK => ?_) AllReadyH.nil
      (obtain ⟨hS1, hS2⟩ := hHeld; refine step_append_str rfl (.tmp 30) (.tmp 45) rfl (base := w.heap.size) (l := l) rfl (HO8.out.fut) (s := s.extract k km) rfl (by rw [HL.out, HEX.out]; omega) (Nat.le_trans hz8 (fut w8 _).size) (N := n + m) (by rw [HL.out, HEX.out]) ?_; intro A9 c9 w9 hown9 hgr9 hbel9; have hb9 : Below w.heap.size w8 w9 := ((fut w8 _).mono hz8).trans hbel9; have H9 := hide hown9; have HB9 := hide (HB8.out.below hb9 hlb); have HM9 : Hid (Mv g w w9) := Mv.down HM8.out hb9; clear q0 q1 q2 lq fq; obtain ⟨q0, q1, q2⟩ := At.z3 HB9.out.at0; have lq := HB9.out.lt; have fq := HB9.out.free; clear hS1 hS2)
      refine hK.out _ _ (by (try dsimp only); (exact ⟨hb9, fun b o h => hb9.cell (p := ⟨b, o, none⟩) h⟩)) (fun hHeld => ?_)
      clear hK K
      (try simp only [Act.put, List.setIfInBounds_toArray, List.set_cons_zero, List.set_cons_succ])
      refine wpAnyH_take (i := 17) (oi := ⟨some 3, _, _, _, _, _⟩) (v := ?_) rfl (by kernel_rfl) (by kernel_rfl) (by kernel_rfl) (fun _ _ _ h => h) (Or.inl ⟨by rfl, ?_⟩) (by assumption) ?_
      rotate_left
      · ((intro w hSw); (try dsimp only at hSw); go_simp; (try with_reducible rfl))
      (try simp only [Act.put, List.setIfInBounds_toArray, List.set_cons_zero, List.set_cons_succ])
      refine wpAnyH_done (by kernel_rfl) ?_ _
      go_wp2_with fail
      have hkme := HKM.out
      go_roundw
      case rel => exact ⟨HM9.out.put _, .inl ⟨f, km, n + m, c9, A9, l ++ (s.data.toList.drop k).take m, by omega, hkm, by omega, rfl, by show _ = _; rw [List.length_append, HL.out, ← HEL.out]; exact congrArg (n + ·) HEX.out, by omega, HTN.out, by have h_ := H9.out; rw [HEL.out] at h_; exact h_.set_other HB9.out (by decide) 1 _, Dp.put HB9.out (by omega)⟩⟩
      case measure => rw [msr_ok (Dp.put (n := km) HB9.out (by omega)), msr_ok HB.out]; omega
    · have HB := hide hb
      obtain ⟨q0, q1, q2⟩ := At.z3 hb.at0
      have lq := hb.lt
      have HRT : Hid (textP s i = none) := by show _ = _; rw [HR.out, HN.out]; rfl
      clear hb
      go_wp2_with fail
      go_ret
      exact ⟨by rw [HRT.out]; exact ⟨k, rfl, HB.out, hk⟩, HM.out⟩
end Go.Proofs.YtoibfefalflooaaDoor
