/-
  The program's printer: a text.
-/
import Derived.Test.YtoibfefalflooaaDoorJt
import Derived.Test.YtoibfefalflooaaDoorYrj
namespace Go.Proofs.YtoibfefalflooaaDoor
open Go.RowKit

theorem padd_long (g : Nat) (o : List UInt8) (t : ByteArray) (ht : t.size ≤ 1099511627776) (h : 65536 < o.length + t.size) : ∀ w, PrOut w g o → Calls Tryd.prog 42 #[.pointer (some ⟨g, 0, none⟩), .string t] w fun e w' => e = .panicked [{ v := fault 302, recovered := false }] ∧ Below g w w' := fun w hp => by
  have := padd_any g o t w hp ht
  rw [addE_long (by exact h)] at this
  exact this
theorem padd_ok (g : Nat) (o o2 : List UInt8) (t : ByteArray) (ht : t.size ≤ 1099511627776) (h : ¬ 65536 < o.length + t.size) (h2 : o ++ t.data.toList = o2) : ∀ w, PrOut w g o → Calls Tryd.prog 42 #[.pointer (some ⟨g, 0, none⟩), .string t] w fun e w' => e = .returned (.tuple #[]) ∧ PrOut w' g o2 ∧ Below g w w' := fun w hp => by
  have := padd_any g o t w hp ht
  rw [addE_ok (by exact h), h2] at this
  exact this.mono fun e w' hh => ⟨hh.1.1, hh.1.2, hh.2⟩
def preQ (out : List UInt8) (s : ByteArray) (k : Nat) : List UInt8 := out ++ 34 :: qBs (s.data.toList.take k)
/-- How a byte x is written. -/
def QC (x : Nat) (c : UInt8) (q : List UInt8) : Prop :=
  (x = 34 ∧ q = [92, 34]) ∨ (x = 92 ∧ q = [92, 92]) ∨ (x = 8 ∧ q = [92, 98]) ∨ (x = 12 ∧ q = [92, 102]) ∨ (x = 10 ∧ q = [92, 110]) ∨ (x = 13 ∧ q = [92, 114]) ∨ (x = 9 ∧ q = [92, 116]) ∨
  ((x < 32 ∧ x ≠ 8 ∧ x ≠ 9 ∧ x ≠ 10 ∧ x ≠ 12 ∧ x ≠ 13) ∧ q = [92, 117, 48, 48, UInt8.ofNat (48 + x / 16), hexD (x % 16)]) ∨
  ((32 ≤ x ∧ x ≠ 34 ∧ x ≠ 92) ∧ q = [c])
theorem qB_cls (c : UInt8) : QC c.toNat c (qB c) := by
  have hc : c = UInt8.ofNat c.toNat := UInt8.toNat_inj.1 (by simp)
  unfold QC qB
  generalize c.toNat = x at *
  by_cases h1 : x = 34
  · subst h1; subst hc; simp
  by_cases h2 : x = 92
  · subst h2; subst hc; simp
  rw [if_neg (by omega)]
  repeat' split
  all_goals first
    | (refine .inr (.inr (.inl ⟨by omega, rfl⟩)); done)
    | (refine .inr (.inr (.inr (.inl ⟨by omega, rfl⟩))); done)
    | (refine .inr (.inr (.inr (.inr (.inl ⟨by omega, rfl⟩)))); done)
    | (refine .inr (.inr (.inr (.inr (.inr (.inl ⟨by omega, rfl⟩))))); done)
    | (refine .inr (.inr (.inr (.inr (.inr (.inr (.inl ⟨by omega, rfl⟩)))))); done)
    | (refine .inr (.inr (.inr (.inr (.inr (.inr (.inr (.inl ⟨by omega, rfl⟩))))))); done)
    | (refine .inr (.inr (.inr (.inr (.inr (.inr (.inr (.inr ⟨by omega, rfl⟩))))))); done)
theorem hex_at : ∀ n : Fin 16, (⟨#[48, 49, 50, 51, 52, 53, 54, 55, 56, 57, 97, 98, 99, 100, 101, 102]⟩ : ByteArray)[n.val]'n.isLt = hexD n.val := by decide
theorem zt {Z : Int} (h0 : 0 ≤ Z) (h1 : Z < 16) : Z.toNat < 16 := by omega
theorem preQ_0 (out : List UInt8) (s : ByteArray) : preQ out s 0 = out ++ [34] := by rw [preQ, List.take_zero]; rfl
theorem preQ_step {out : List UInt8} {s : ByteArray} {k : Nat} (h : k < s.size) : preQ out s (k + 1) = preQ out s k ++ qB s[k] := by
  rw [preQ, preQ, qBs_take (i := k) (c := s[k]) (by rw [List.getElem?_eq_getElem (by exact h)]; rfl), List.append_assoc]
  rfl
theorem preQ_end (out : List UInt8) (s : ByteArray) : preQ out s s.size ++ [34] = out ++ quoteL s := by
  rw [preQ, quoteL, show s.size = s.data.toList.length from rfl, List.take_length, List.append_assoc]
  rfl
theorem preQ_le (out : List UInt8) (s : ByteArray) (k : Nat) : (preQ out s k).length + 1 ≤ out.length + (quoteL s).length := by
  have := qBs_le s.data.toList k
  simp only [preQ, quoteL, List.length_append, List.length_cons, List.length_nil]
  omega
theorem textW_bad {s : ByteArray} {out : List UInt8} (h : validB s = false) : textW s out = .error 300 := by rw [textW, if_neg (by rw [h]; decide)]
theorem textW_ok {s : ByteArray} {out : List UInt8} (h : validB s = true) : textW s out = addE out (quoteL s) := by rw [textW, if_pos h]

set_option maxRecDepth 100000 in
theorem ptext_bad (g : Nat) (s : ByteArray) (w : World) (hv : validB s = false) (hs : s.size ≤ 9223372036854775807) :
    Calls Tryd.prog 45 #[.pointer (some ⟨g, 0, none⟩), .string s] w fun e w' => e = .panicked [{ v := fault 300, recovered := false }] ∧ Step w w' := by
  have UV := fun w' => uvalid_any s w' hs
  rw [hv] at UV
  have UV := hide UV
  clear hv
  go_enter Tryd.func45, Tryd.ntmps45
  go_wp2_with (first | (go_at_call 59; (with_reducible refine (UV.out _).mono ?_); rintro e w1 ⟨rfl, hs1⟩) | (go_at_call 23; (with_reducible refine (bad_any _).mono ?_); rintro e w2 ⟨rfl, rfl⟩))
  exact ⟨rfl, rfl, Step.of⟩

set_option maxRecDepth 100000 in
set_option maxHeartbeats 16000000 in
theorem ptext_ok (g : Nat) (out : List UInt8) (s : ByteArray) (w : World) (h : PrOut w g out) (hv : validB s = true) (hs : s.size ≤ 9223372036854775807) :
    Calls Tryd.prog 45 #[.pointer (some ⟨g, 0, none⟩), .string s] w fun e w' => PrR g (addE out (quoteL s)) e w' ∧ Below g w w' := by
  have HP := hide h
  have hlb := h.lt
  clear h
  have UV := fun w' => uvalid_any s w' hs
  rw [hv] at UV
  have UV := hide UV
  clear hv
  obtain ⟨R, hR⟩ : ∃ R, addE out (quoteL s) = R := ⟨_, rfl⟩
  have HR := hide hR
  rw [hR]
  clear hR
  by_cases hl0 : 65536 < out.length + 1
  · have HE : Hid (R = .error 302) := by show _ = _; rw [← HR.out]; exact addE_long (by have := preQ_le out s 0; rw [preQ_0, List.length_append] at this; simp only [List.length_cons, List.length_nil] at this; omega)
    rw [HE.out]
    have AL := hide (padd_long g out ⟨#[34]⟩ (by decide) hl0)
    clear hl0
    go_enter Tryd.func45, Tryd.ntmps45
    go_wp2_with (first | (go_at_call 59; (with_reducible refine (UV.out _).mono ?_); rintro e w1 ⟨rfl, hs1⟩) | (go_at_call 42; (with_reducible refine (AL.out _ HP.out.fut).mono ?_); rintro e w2 ⟨rfl, hb2⟩))
    exact ⟨rfl, rfl, ((fut w w1).mono (by omega)).trans hb2⟩
  · have A0 := hide (padd_ok g out (preQ out s 0) ⟨#[34]⟩ (by decide) hl0 (preQ_0 out s).symm)
    clear hl0
    go_enter Tryd.func45, Tryd.ntmps45
    go_upto_region 3 with (first | (go_at_call 59; (with_reducible refine (UV.out _).mono ?_); rintro e w1 ⟨rfl, hs1⟩) | (go_at_call 42; (with_reducible refine (A0.out _ HP.out.fut).mono ?_); rintro e w2 ⟨rfl, hp2, hb2⟩))
    have HP2 := hide hp2
    have HM2 : Hid (Below g w w2) := ((fut w w1).mono (by omega)).trans hb2
    clear hp2 hb2
    go_wp2_with fail
    go_loopw [14] (fun v14 wr => ∃ k : Nat, k ≤ s.size ∧ v14 = .int .i64 k ∧ PrOut wr g (preQ out s k) ∧ Below g w wr) (fun v14 _ => s.size - (intOf v14).toNat)
    case atStart => exact ⟨0, Nat.zero_le _, rfl, HP2.out, HM2.out⟩
    case round =>
      obtain ⟨k, hk, rfl, hp, hbl⟩ := hrel
      have HP := hide hp; have HM := hide hbl
      clear hp hbl HP2 HM2
      obtain ⟨wo, rfl⟩ : ∃ x : World, x = wr := ⟨_, rfl⟩
      by_cases hlt : k < s.size
      · have hkl : (k : Int) < (s.size : Int) := by omega
        have hk0 : (0 : Int) ≤ (k : Int) := by omega
        have hkn : (k : Int) + 1 ≤ 9223372036854775807 := by omega
        have hc := s[k].toNat_lt
        obtain ⟨q, hq⟩ : ∃ q, qB s[k] = q := ⟨_, rfl⟩
        have HST : Hid (preQ out s k ++ q = preQ out s (k + 1)) := by show _ = _; rw [preQ_step hlt, hq]
        have HQ := qB_cls s[k]
        rw [hq] at HQ
        clear hq
        obtain ⟨x, hx⟩ : ∃ x : Nat, s[k].toNat = x := ⟨_, rfl⟩
        rw [hx] at HQ hc
        have hgo : g ≤ wo.heap.size := by have := HP.out.lt; omega
        rcases HQ with ⟨hv, hq⟩ | ⟨hv, hq⟩ | ⟨hv, hq⟩ | ⟨hv, hq⟩ | ⟨hv, hq⟩ | ⟨hv, hq⟩ | ⟨hv, hq⟩ | ⟨hv, hq⟩ | ⟨hv, hq⟩
        · subst hv hq
          by_cases hl : 65536 < (preQ out s k).length + 2
          · obtain rfl : R = .error 302 := by rw [← HR.out]; exact addE_long (by have h1 := preQ_le out s (k + 1); rw [← HST.out, List.length_append] at h1; simp only [List.length_cons, List.length_nil] at h1; omega)
            have AX := hide (padd_long g (preQ out s k) ⟨#[92, 34]⟩ (by decide) hl)
            clear hl
            have hsl := SlAt.new (w := wo) (size := 1) (l := byteCells [92, 34]) (cs := [.int .u8 92, .int .u8 34]) (t := 5) rfl (byte_fit _).len
            have hcv := bytes_conv (c := 2) (n := 2) hsl rfl (by decide)
            clear hsl
            go_wp2_with (go_at_call 42; go_loud (with_reducible refine (AX.out _ HP.out.fut).mono ?_); rintro e w3 ⟨rfl, hb3⟩)
            exact ⟨rfl, rfl, HM.out.trans (((fut wo _).mono (by omega)).trans hb3)⟩
          · skip
            have AX := hide (padd_ok g (preQ out s k) (preQ out s (k + 1)) ⟨#[92, 34]⟩ (by decide) hl HST.out)
            clear hl
            have hsl := SlAt.new (w := wo) (size := 1) (l := byteCells [92, 34]) (cs := [.int .u8 92, .int .u8 34]) (t := 5) rfl (byte_fit _).len
            have hcv := bytes_conv (c := 2) (n := 2) hsl rfl (by decide)
            clear hsl
            go_wp2_with (go_at_call 42; (with_reducible refine (AX.out _ HP.out.fut).mono ?_); rintro e w3 ⟨rfl, hp3, hb3⟩; have HP3 := hide hp3; clear hp3)
            go_roundw
            case rel => exact ⟨k + 1, by omega, by go_num, HP3.out, HM.out.trans (((fut wo _).mono (by omega)).trans hb3)⟩
            case measure => simp [intOf]; omega
        · subst hv hq
          by_cases hl : 65536 < (preQ out s k).length + 2
          · obtain rfl : R = .error 302 := by rw [← HR.out]; exact addE_long (by have h1 := preQ_le out s (k + 1); rw [← HST.out, List.length_append] at h1; simp only [List.length_cons, List.length_nil] at h1; omega)
            have AX := hide (padd_long g (preQ out s k) ⟨#[92, 92]⟩ (by decide) hl)
            clear hl
            have hsl := SlAt.new (w := wo) (size := 1) (l := byteCells [92, 92]) (cs := [.int .u8 92, .int .u8 92]) (t := 5) rfl (byte_fit _).len
            have hcv := bytes_conv (c := 2) (n := 2) hsl rfl (by decide)
            clear hsl
            go_wp2_with (go_at_call 42; (with_reducible refine (AX.out _ HP.out.fut).mono ?_); rintro e w3 ⟨rfl, hb3⟩)
            exact ⟨rfl, rfl, HM.out.trans (((fut wo _).mono (by omega)).trans hb3)⟩
          · skip
            have AX := hide (padd_ok g (preQ out s k) (preQ out s (k + 1)) ⟨#[92, 92]⟩ (by decide) hl HST.out)
            clear hl
            have hsl := SlAt.new (w := wo) (size := 1) (l := byteCells [92, 92]) (cs := [.int .u8 92, .int .u8 92]) (t := 5) rfl (byte_fit _).len
            have hcv := bytes_conv (c := 2) (n := 2) hsl rfl (by decide)
            clear hsl
            go_wp2_with (go_at_call 42; (with_reducible refine (AX.out _ HP.out.fut).mono ?_); rintro e w3 ⟨rfl, hp3, hb3⟩; have HP3 := hide hp3; clear hp3)
            go_roundw
            case rel => exact ⟨k + 1, by omega, by go_num, HP3.out, HM.out.trans (((fut wo _).mono (by omega)).trans hb3)⟩
            case measure => simp [intOf]; omega
        · subst hv hq
          by_cases hl : 65536 < (preQ out s k).length + 2
          · obtain rfl : R = .error 302 := by rw [← HR.out]; exact addE_long (by have h1 := preQ_le out s (k + 1); rw [← HST.out, List.length_append] at h1; simp only [List.length_cons, List.length_nil] at h1; omega)
            have AX := hide (padd_long g (preQ out s k) ⟨#[92, 98]⟩ (by decide) hl)
            clear hl
            go_wp2_with (go_at_call 42; (with_reducible refine (AX.out _ HP.out.fut).mono ?_); rintro e w3 ⟨rfl, hb3⟩)
            exact ⟨rfl, rfl, HM.out.trans (((fut wo _).mono (by omega)).trans hb3)⟩
          · skip
            have AX := hide (padd_ok g (preQ out s k) (preQ out s (k + 1)) ⟨#[92, 98]⟩ (by decide) hl HST.out)
            clear hl
            go_wp2_with (go_at_call 42; (with_reducible refine (AX.out _ HP.out.fut).mono ?_); rintro e w3 ⟨rfl, hp3, hb3⟩; have HP3 := hide hp3; clear hp3)
            go_roundw
            case rel => exact ⟨k + 1, by omega, by go_num, HP3.out, HM.out.trans (((fut wo _).mono (by omega)).trans hb3)⟩
            case measure => simp [intOf]; omega
        · subst hv hq
          by_cases hl : 65536 < (preQ out s k).length + 2
          · obtain rfl : R = .error 302 := by rw [← HR.out]; exact addE_long (by have h1 := preQ_le out s (k + 1); rw [← HST.out, List.length_append] at h1; simp only [List.length_cons, List.length_nil] at h1; omega)
            have AX := hide (padd_long g (preQ out s k) ⟨#[92, 102]⟩ (by decide) hl)
            clear hl
            go_wp2_with (go_at_call 42; (with_reducible refine (AX.out _ HP.out.fut).mono ?_); rintro e w3 ⟨rfl, hb3⟩)
            exact ⟨rfl, rfl, HM.out.trans (((fut wo _).mono (by omega)).trans hb3)⟩
          · skip
            have AX := hide (padd_ok g (preQ out s k) (preQ out s (k + 1)) ⟨#[92, 102]⟩ (by decide) hl HST.out)
            clear hl
            go_wp2_with (go_at_call 42; (with_reducible refine (AX.out _ HP.out.fut).mono ?_); rintro e w3 ⟨rfl, hp3, hb3⟩; have HP3 := hide hp3; clear hp3)
            go_roundw
            case rel => exact ⟨k + 1, by omega, by go_num, HP3.out, HM.out.trans (((fut wo _).mono (by omega)).trans hb3)⟩
            case measure => simp [intOf]; omega
        · subst hv hq
          by_cases hl : 65536 < (preQ out s k).length + 2
          · obtain rfl : R = .error 302 := by rw [← HR.out]; exact addE_long (by have h1 := preQ_le out s (k + 1); rw [← HST.out, List.length_append] at h1; simp only [List.length_cons, List.length_nil] at h1; omega)
            have AX := hide (padd_long g (preQ out s k) ⟨#[92, 110]⟩ (by decide) hl)
            clear hl
            go_wp2_with (go_at_call 42; (with_reducible refine (AX.out _ HP.out.fut).mono ?_); rintro e w3 ⟨rfl, hb3⟩)
            exact ⟨rfl, rfl, HM.out.trans (((fut wo _).mono (by omega)).trans hb3)⟩
          · skip
            have AX := hide (padd_ok g (preQ out s k) (preQ out s (k + 1)) ⟨#[92, 110]⟩ (by decide) hl HST.out)
            clear hl
            go_wp2_with (go_at_call 42; (with_reducible refine (AX.out _ HP.out.fut).mono ?_); rintro e w3 ⟨rfl, hp3, hb3⟩; have HP3 := hide hp3; clear hp3)
            go_roundw
            case rel => exact ⟨k + 1, by omega, by go_num, HP3.out, HM.out.trans (((fut wo _).mono (by omega)).trans hb3)⟩
            case measure => simp [intOf]; omega
        · subst hv hq
          by_cases hl : 65536 < (preQ out s k).length + 2
          · obtain rfl : R = .error 302 := by rw [← HR.out]; exact addE_long (by have h1 := preQ_le out s (k + 1); rw [← HST.out, List.length_append] at h1; simp only [List.length_cons, List.length_nil] at h1; omega)
            have AX := hide (padd_long g (preQ out s k) ⟨#[92, 114]⟩ (by decide) hl)
            clear hl
            go_wp2_with (go_at_call 42; (with_reducible refine (AX.out _ HP.out.fut).mono ?_); rintro e w3 ⟨rfl, hb3⟩)
            exact ⟨rfl, rfl, HM.out.trans (((fut wo _).mono (by omega)).trans hb3)⟩
          · skip
            have AX := hide (padd_ok g (preQ out s k) (preQ out s (k + 1)) ⟨#[92, 114]⟩ (by decide) hl HST.out)
            clear hl
            go_wp2_with (go_at_call 42; (with_reducible refine (AX.out _ HP.out.fut).mono ?_); rintro e w3 ⟨rfl, hp3, hb3⟩; have HP3 := hide hp3; clear hp3)
            go_roundw
            case rel => exact ⟨k + 1, by omega, by go_num, HP3.out, HM.out.trans (((fut wo _).mono (by omega)).trans hb3)⟩
            case measure => simp [intOf]; omega
        · subst hv hq
          by_cases hl : 65536 < (preQ out s k).length + 2
          · obtain rfl : R = .error 302 := by rw [← HR.out]; exact addE_long (by have h1 := preQ_le out s (k + 1); rw [← HST.out, List.length_append] at h1; simp only [List.length_cons, List.length_nil] at h1; omega)
            have AX := hide (padd_long g (preQ out s k) ⟨#[92, 116]⟩ (by decide) hl)
            clear hl
            go_wp2_with (go_at_call 42; (with_reducible refine (AX.out _ HP.out.fut).mono ?_); rintro e w3 ⟨rfl, hb3⟩)
            exact ⟨rfl, rfl, HM.out.trans (((fut wo _).mono (by omega)).trans hb3)⟩
          · skip
            have AX := hide (padd_ok g (preQ out s k) (preQ out s (k + 1)) ⟨#[92, 116]⟩ (by decide) hl HST.out)
            clear hl
            go_wp2_with (go_at_call 42; (with_reducible refine (AX.out _ HP.out.fut).mono ?_); rintro e w3 ⟨rfl, hp3, hb3⟩; have HP3 := hide hp3; clear hp3)
            go_roundw
            case rel => exact ⟨k + 1, by omega, by go_num, HP3.out, HM.out.trans (((fut wo _).mono (by omega)).trans hb3)⟩
            case measure => simp [intOf]; omega
        · subst hq
          obtain ⟨hv1, hv2, hv3, hv4, hv5, hv6⟩ := hv
          obtain ⟨X, hX⟩ : ∃ X : Int, (s[k].toNat : Int) = X := ⟨_, rfl⟩
          have hX2 : (x : Int) = X := by rw [← hX, hx]
          have e34 : (X == 34) = false := beq_eq_false_iff_ne.2 (by omega)
          have e92 : (X == 92) = false := beq_eq_false_iff_ne.2 (by omega)
          have e8 : (X == 8) = false := beq_eq_false_iff_ne.2 (by omega)
          have e12 : (X == 12) = false := beq_eq_false_iff_ne.2 (by omega)
          have e10 : (X == 10) = false := beq_eq_false_iff_ne.2 (by omega)
          have e13 : (X == 13) = false := beq_eq_false_iff_ne.2 (by omega)
          have e9 : (X == 9) = false := beq_eq_false_iff_ne.2 (by omega)
          have h32 : X < 32 := by omega
          have h0 : 0 ≤ X := by omega
          obtain ⟨Y, hY⟩ : ∃ Y : Int, X / 16 = Y := ⟨_, rfl⟩
          obtain ⟨Z, hZ⟩ : ∃ Z : Int, X % 16 = Z := ⟨_, rfl⟩
          have hY0 : 0 ≤ Y := by omega
          have hY1 : Y < 2 := by omega
          have hZ0 : 0 ≤ Z := by omega
          have hZ1 : Z < 16 := by omega
          have hsl := SlAt.new (w := wo) (size := 1) (l := byteCells [UInt8.ofNat (48 + x / 16), hexD (x % 16)]) (cs := [.int .u8 (48 + Y), .int .u8 (((⟨#[48, 49, 50, 51, 52, 53, 54, 55, 56, 57, 97, 98, 99, 100, 101, 102]⟩ : ByteArray)[Z.toNat]'(zt hZ0 hZ1)).toNat : Int)]) (t := 5) (by
            rw [show (⟨#[48, 49, 50, 51, 52, 53, 54, 55, 56, 57, 97, 98, 99, 100, 101, 102]⟩ : ByteArray)[Z.toNat]'(zt hZ0 hZ1) = hexD (x % 16) from (hex_at ⟨Z.toNat, (zt hZ0 hZ1)⟩).trans (by show hexD Z.toNat = _; rw [show Z.toNat = x % 16 by omega]), show (48 + Y : Int) = ((UInt8.ofNat (48 + x / 16)).toNat : Int) by rw [UInt8.toNat_ofNat']; omega]
            rfl) (byte_fit _).len
          have hcv := bytes_conv (c := 2) (n := 2) hsl rfl (by decide)
          obtain ⟨V, hV⟩ : ∃ V : Int, (((⟨#[48, 49, 50, 51, 52, 53, 54, 55, 56, 57, 97, 98, 99, 100, 101, 102]⟩ : ByteArray)[Z.toNat]'(zt hZ0 hZ1)).toNat : Int) = V := ⟨_, rfl⟩
          rw [hV] at hcv
          obtain ⟨t2, ht2⟩ : ∃ t : ByteArray, (⟨[UInt8.ofNat (48 + x / 16), hexD (x % 16)].toArray⟩ : ByteArray) = t := ⟨_, rfl⟩
          rw [ht2] at hcv
          have HTL : Hid (((⟨#[92, 117, 48, 48]⟩ : ByteArray) ++ t2).data.toList = [92, 117, 48, 48, UInt8.ofNat (48 + x / 16), hexD (x % 16)]) := by show _ = _; rw [← ht2]; simp
          have HSZ : Hid (((⟨#[92, 117, 48, 48]⟩ : ByteArray) ++ t2).size = 6) := by show _ = _; have := congrArg List.length HTL.out; exact this
          have ht2s : t2.size = 2 := by rw [← ht2]; rfl
          clear hsl ht2 hX2 hx
          by_cases hl : 65536 < (preQ out s k).length + 6
          · obtain rfl : R = .error 302 := by rw [← HR.out]; exact addE_long (by have h1 := preQ_le out s (k + 1); rw [← HST.out, List.length_append] at h1; simp only [List.length_cons, List.length_nil] at h1; omega)
            have AX := hide (padd_long g (preQ out s k) (⟨#[92, 117, 48, 48]⟩ ++ t2) (by rw [HSZ.out]; decide) (by rw [HSZ.out]; exact hl))
            clear hl
            go_wp2_with (go_at_call 42; go_loud (with_reducible refine (AX.out _ HP.out.fut).mono ?_); rintro e w3 ⟨rfl, hb3⟩)
            exact ⟨rfl, rfl, HM.out.trans (((fut wo _).mono (by omega)).trans hb3)⟩
          · skip
            have AX := hide (padd_ok g (preQ out s k) (preQ out s (k + 1)) (⟨#[92, 117, 48, 48]⟩ ++ t2) (by rw [HSZ.out]; decide) (by rw [HSZ.out]; exact hl) (by rw [HTL.out]; exact HST.out))
            clear hl
            go_wp2_with (go_at_call 42; (with_reducible refine (AX.out _ HP.out.fut).mono ?_); rintro e w3 ⟨rfl, hp3, hb3⟩; have HP3 := hide hp3; clear hp3)
            go_roundw
            case rel => exact ⟨k + 1, by omega, by go_num, HP3.out, HM.out.trans (((fut wo _).mono (by omega)).trans hb3)⟩
            case measure => simp [intOf]; omega
        · subst hq
          obtain ⟨hv1, hv2, hv3⟩ := hv
          obtain ⟨X, hX⟩ : ∃ X : Int, (s[k].toNat : Int) = X := ⟨_, rfl⟩
          have hX2 : (x : Int) = X := by rw [← hX, hx]
          have e34 : (X == 34) = false := beq_eq_false_iff_ne.2 (by omega)
          have e92 : (X == 92) = false := beq_eq_false_iff_ne.2 (by omega)
          have e8 : (X == 8) = false := beq_eq_false_iff_ne.2 (by omega)
          have e12 : (X == 12) = false := beq_eq_false_iff_ne.2 (by omega)
          have e10 : (X == 10) = false := beq_eq_false_iff_ne.2 (by omega)
          have e13 : (X == 13) = false := beq_eq_false_iff_ne.2 (by omega)
          have e9 : (X == 9) = false := beq_eq_false_iff_ne.2 (by omega)
          have h32 : ¬ X < 32 := by omega
          clear hX2 hx
          have HTL : Hid ((s.extract k (k + 1)).data.toList = [s[k]]) := by show _ = _; rw [extract_list, List.drop_eq_getElem_cons (by exact hlt)]; rfl
          have HSZ : Hid ((s.extract k (k + 1)).size = 1) := by show _ = _; have := congrArg List.length HTL.out; exact this
          by_cases hl : 65536 < (preQ out s k).length + 1
          · obtain rfl : R = .error 302 := by rw [← HR.out]; exact addE_long (by have h1 := preQ_le out s (k + 1); rw [← HST.out, List.length_append] at h1; simp only [List.length_cons, List.length_nil] at h1; omega)
            have AX := hide (padd_long g (preQ out s k) (s.extract k (k + 1)) (by rw [HSZ.out]; decide) (by rw [HSZ.out]; exact hl))
            clear hl
            go_wp2_with (go_at_call 42; go_loud (with_reducible refine (AX.out _ HP.out.fut).mono ?_); rintro e w3 ⟨rfl, hb3⟩)
            exact ⟨rfl, rfl, HM.out.trans (((fut wo _).mono (by omega)).trans hb3)⟩
          · skip
            have AX := hide (padd_ok g (preQ out s k) (preQ out s (k + 1)) (s.extract k (k + 1)) (by rw [HSZ.out]; decide) (by rw [HSZ.out]; exact hl) (by rw [HTL.out]; exact HST.out))
            clear hl
            go_wp2_with (go_at_call 42; (with_reducible refine (AX.out _ HP.out.fut).mono ?_); rintro e w3 ⟨rfl, hp3, hb3⟩; have HP3 := hide hp3; clear hp3)
            go_roundw
            case rel => exact ⟨k + 1, by omega, by go_num, HP3.out, HM.out.trans (((fut wo _).mono (by omega)).trans hb3)⟩
            case measure => simp [intOf]; omega
      · obtain rfl : k = s.size := by omega
        clear hlt
        by_cases hl : 65536 < (preQ out s s.size).length + 1
        · obtain rfl : R = .error 302 := by rw [← HR.out]; exact addE_long (by have := congrArg List.length (preQ_end out s); rw [List.length_append, List.length_append] at this; simp only [List.length_cons, List.length_nil] at this; omega)
          have AL := hide (padd_long g (preQ out s s.size) ⟨#[34]⟩ (by decide) hl)
          clear hl
          go_wp2_with (go_at_call 42; (with_reducible refine (AL.out _ HP.out.fut).mono ?_); rintro e w3 ⟨rfl, hb3⟩)
          exact ⟨rfl, rfl, HM.out.trans hb3⟩
        · obtain rfl : R = .ok (out ++ quoteL s) := by rw [← HR.out]; exact addE_ok (by have := congrArg List.length (preQ_end out s); rw [List.length_append, List.length_append] at this; simp only [List.length_cons, List.length_nil] at this; omega)
          have AO := hide (padd_ok g (preQ out s s.size) (out ++ quoteL s) ⟨#[34]⟩ (by decide) hl (preQ_end out s))
          clear hl
          go_wp2_with (go_at_call 42; (with_reducible refine (AO.out _ HP.out.fut).mono ?_); rintro e w3 ⟨rfl, hp3, hb3⟩; have HP3 := hide hp3; clear hp3)
          go_end0
          exact ⟨⟨rfl, HP3.out⟩, HM.out.trans hb3⟩
end Go.Proofs.YtoibfefalflooaaDoor
