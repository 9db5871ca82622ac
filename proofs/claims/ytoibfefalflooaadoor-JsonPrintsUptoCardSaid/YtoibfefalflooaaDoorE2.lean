/-
  The document's printer: a text.
-/
import Derived.Test.YtoibfefalflooaaDoorE1
import Derived.Test.YtoibfefalflooaaDoorJu
import Derived.Deep.RegionHeld3
import Derived.Deep.RegionLaw
import Derived.Deep.Cut
import Derived.Deep.CutBlock
namespace Go.Proofs.YtoibfefalflooaaDoor
open Go.RowKit

set_option maxRecDepth 100000 in
set_option maxHeartbeats 16000000 in
theorem rquote_any (s : ByteArray) (w : World) (hs : s.size ≤ 1048576) : Calls Tryd.prog 49 #[.string s] w fun e w' => e = .returned (.string (ofL (quoteL s))) ∧ Step w w' := by
  have hE := preQ_end [] s
  rw [List.nil_append] at hE
  have H0 : Hid (preQ [] s 0 = [34]) := preQ_0 [] s
  have HE := hide hE
  have HP := hide (fun (k : Nat) (h : k < s.size) => preQ_step (out := []) h)
  have HN0 : Hid (Own (w.alloc (.cells #[.int .u8 34] 5)) w.heap.size 5 1 (.slice (some ⟨w.heap.size, 0, none⟩) 1 1) (byteCells [34])) := Own.of_blk (Blk.new w [.int .u8 34] 5) (Nat.le_refl _) rfl (byte_fit _).len (Nat.le_refl _) (by decide) rfl rfl
  clear hE
  go_enter Tryd.func49, Tryd.ntmps49
  go_wp2_with fail
  go_loopw [3, 5] (fun v3 v5 wr => ∃ (k n c : Nat) (A : Option Addr) (out : List UInt8), k ≤ s.size ∧ v3 = .slice A n c ∧ v5 = .int .i64 k ∧ Hid (out.length = n) ∧ n ≤ 6 * k + 1 ∧ out = preQ [] s k ∧ Own wr w.heap.size 5 1 (.slice A n c) (byteCells out) ∧ Step w wr) (fun _ v5 _ => s.size - (intOf v5).toNat)
  case atStart => exact ⟨0, 1, 1, some ⟨w.heap.size, 0, none⟩, [34], Nat.zero_le _, rfl, rfl, rfl, Nat.le_refl _, H0.out.symm, HN0.out, Step.of⟩
  case round =>
    obtain ⟨k, n, c, A, out, hk, rfl, rfl, HL, hn, hout, hown, hst⟩ := hrel
    have HO := hide hown
    have HOUT := hide hout
    clear hown HN0 hout
    obtain ⟨wo, rfl⟩ : ∃ x : World, x = wr := ⟨_, rfl⟩
    have hwo : w.heap.size ≤ wo.heap.size := hst.size
    by_cases hlt : k < s.size
    · have hkl : (k : Int) < (s.size : Int) := by omega
      have hk0 : (0 : Int) ≤ (k : Int) := by omega
      have hkn : (k : Int) + 1 ≤ 2000000 := by omega
      have hc := s[k].toNat_lt
      obtain ⟨q, hq⟩ : ∃ q, qB s[k] = q := ⟨_, rfl⟩
      have HST : Hid (out ++ q = preQ [] s (k + 1)) := by show _ = _; rw [HOUT.out, HP.out k hlt, hq]
      have HQ := qB_cls s[k]
      rw [hq] at HQ
      clear hq
      obtain ⟨x, hx⟩ : ∃ x : Nat, s[k].toNat = x := ⟨_, rfl⟩
      rw [hx] at HQ hc
      rcases HQ with ⟨hv, hq⟩ | ⟨hv, hq⟩ | ⟨hv, hq⟩ | ⟨hv, hq⟩ | ⟨hv, hq⟩ | ⟨hv, hq⟩ | ⟨hv, hq⟩ | ⟨hv, hq⟩ | ⟨hv, hq⟩
      · subst hv hq
        have HNEW : Hid (SlAt (wo.alloc (.cells #[.int .u8 92, .int .u8 34] 5)) (wo.alloc (.cells #[.int .u8 92, .int .u8 34] 5)).heap.size 1 (some ⟨wo.heap.size, 0, none⟩) (byteCells [92, 34])) := SlAt.new (w := wo) (size := 1) (l := byteCells [92, 34]) (cs := [.int .u8 92, .int .u8 34]) (t := 5) rfl (byte_fit _).len
        go_wp2_with (at_builtin; refine wpList_append_sl rfl (.tmp 28) (.tmp 30) 47 rfl eiByte (base := w.heap.size) (xs := byteCells out) rfl (HO.out.fut (w' := (wo.alloc (.cells #[.int .u8 92, .int .u8 34] 5)))) (byte_fit _) (ys := byteCells [92, 34]) rfl rfl HNEW.out (byte_fit _) (by simp only [byteCells, List.length_map, List.length_cons, List.length_nil, HL.out]; omega) (Nat.le_trans hwo (fut wo (wo.alloc (.cells #[.int .u8 92, .int .u8 34] 5))).size) (N := n + 2) (by simp only [byteCells, List.length_map, List.length_cons, List.length_nil, HL.out]) ?_; intro A7 c7 w7 hq1 hq2 ho7 hg7 hb7; have HO7 : Hid (Own w7 w.heap.size 5 1 (.slice A7 (n + 2) c7) (byteCells (out ++ [92, 34]))) := (by show Own _ _ _ _ _ _; unfold byteCells at ho7 ⊢; rw [List.map_append]; exact ho7); have HS7 : Hid (Step w w7) := ⟨((fut w wo).trans ((fut wo (wo.alloc (.cells #[.int .u8 92, .int .u8 34] 5))).mono hwo)).trans hb7⟩; clear hq1 hq2 ho7 hg7 hb7)
        go_roundw
        case rel => exact ⟨k + 1, n + 2, c7, A7, out ++ [92, 34], by omega, rfl, by go_num, by show _ = _; rw [List.length_append, HL.out]; rfl, by omega, HST.out, HO7.out, HS7.out⟩
        case measure => simp [intOf]; omega
      · subst hv hq
        have HNEW : Hid (SlAt (wo.alloc (.cells #[.int .u8 92, .int .u8 92] 5)) (wo.alloc (.cells #[.int .u8 92, .int .u8 92] 5)).heap.size 1 (some ⟨wo.heap.size, 0, none⟩) (byteCells [92, 92])) := SlAt.new (w := wo) (size := 1) (l := byteCells [92, 92]) (cs := [.int .u8 92, .int .u8 92]) (t := 5) rfl (byte_fit _).len
        go_wp2_with (at_builtin; refine wpList_append_sl rfl (.tmp 28) (.tmp 30) 47 rfl eiByte (base := w.heap.size) (xs := byteCells out) rfl (HO.out.fut (w' := (wo.alloc (.cells #[.int .u8 92, .int .u8 92] 5)))) (byte_fit _) (ys := byteCells [92, 92]) rfl rfl HNEW.out (byte_fit _) (by simp only [byteCells, List.length_map, List.length_cons, List.length_nil, HL.out]; omega) (Nat.le_trans hwo (fut wo (wo.alloc (.cells #[.int .u8 92, .int .u8 92] 5))).size) (N := n + 2) (by simp only [byteCells, List.length_map, List.length_cons, List.length_nil, HL.out]) ?_; intro A7 c7 w7 hq1 hq2 ho7 hg7 hb7; have HO7 : Hid (Own w7 w.heap.size 5 1 (.slice A7 (n + 2) c7) (byteCells (out ++ [92, 92]))) := (by show Own _ _ _ _ _ _; unfold byteCells at ho7 ⊢; rw [List.map_append]; exact ho7); have HS7 : Hid (Step w w7) := ⟨((fut w wo).trans ((fut wo (wo.alloc (.cells #[.int .u8 92, .int .u8 92] 5))).mono hwo)).trans hb7⟩; clear hq1 hq2 ho7 hg7 hb7)
        go_roundw
        case rel => exact ⟨k + 1, n + 2, c7, A7, out ++ [92, 92], by omega, rfl, by go_num, by show _ = _; rw [List.length_append, HL.out]; rfl, by omega, HST.out, HO7.out, HS7.out⟩
        case measure => simp [intOf]; omega
      · subst hv hq
        have HNEW : Hid (SlAt (wo.alloc (.cells #[.int .u8 92, .int .u8 98] 5)) (wo.alloc (.cells #[.int .u8 92, .int .u8 98] 5)).heap.size 1 (some ⟨wo.heap.size, 0, none⟩) (byteCells [92, 98])) := SlAt.new (w := wo) (size := 1) (l := byteCells [92, 98]) (cs := [.int .u8 92, .int .u8 98]) (t := 5) rfl (byte_fit _).len
        go_wp2_with (at_builtin; refine wpList_append_sl rfl (.tmp 35) (.tmp 36) 47 rfl eiByte (base := w.heap.size) (xs := byteCells out) rfl (HO.out.fut (w' := (wo.alloc (.cells #[.int .u8 92, .int .u8 98] 5)))) (byte_fit _) (ys := byteCells [92, 98]) rfl rfl HNEW.out (byte_fit _) (by simp only [byteCells, List.length_map, List.length_cons, List.length_nil, HL.out]; omega) (Nat.le_trans hwo (fut wo (wo.alloc (.cells #[.int .u8 92, .int .u8 98] 5))).size) (N := n + 2) (by simp only [byteCells, List.length_map, List.length_cons, List.length_nil, HL.out]) ?_; intro A7 c7 w7 hq1 hq2 ho7 hg7 hb7; have HO7 : Hid (Own w7 w.heap.size 5 1 (.slice A7 (n + 2) c7) (byteCells (out ++ [92, 98]))) := (by show Own _ _ _ _ _ _; unfold byteCells at ho7 ⊢; rw [List.map_append]; exact ho7); have HS7 : Hid (Step w w7) := ⟨((fut w wo).trans ((fut wo (wo.alloc (.cells #[.int .u8 92, .int .u8 98] 5))).mono hwo)).trans hb7⟩; clear hq1 hq2 ho7 hg7 hb7)
        go_roundw
        case rel => exact ⟨k + 1, n + 2, c7, A7, out ++ [92, 98], by omega, rfl, by go_num, by show _ = _; rw [List.length_append, HL.out]; rfl, by omega, HST.out, HO7.out, HS7.out⟩
        case measure => simp [intOf]; omega
      · subst hv hq
        have HNEW : Hid (SlAt (wo.alloc (.cells #[.int .u8 92, .int .u8 102] 5)) (wo.alloc (.cells #[.int .u8 92, .int .u8 102] 5)).heap.size 1 (some ⟨wo.heap.size, 0, none⟩) (byteCells [92, 102])) := SlAt.new (w := wo) (size := 1) (l := byteCells [92, 102]) (cs := [.int .u8 92, .int .u8 102]) (t := 5) rfl (byte_fit _).len
        go_wp2_with (at_builtin; refine wpList_append_sl rfl (.tmp 41) (.tmp 42) 47 rfl eiByte (base := w.heap.size) (xs := byteCells out) rfl (HO.out.fut (w' := (wo.alloc (.cells #[.int .u8 92, .int .u8 102] 5)))) (byte_fit _) (ys := byteCells [92, 102]) rfl rfl HNEW.out (byte_fit _) (by simp only [byteCells, List.length_map, List.length_cons, List.length_nil, HL.out]; omega) (Nat.le_trans hwo (fut wo (wo.alloc (.cells #[.int .u8 92, .int .u8 102] 5))).size) (N := n + 2) (by simp only [byteCells, List.length_map, List.length_cons, List.length_nil, HL.out]) ?_; intro A7 c7 w7 hq1 hq2 ho7 hg7 hb7; have HO7 : Hid (Own w7 w.heap.size 5 1 (.slice A7 (n + 2) c7) (byteCells (out ++ [92, 102]))) := (by show Own _ _ _ _ _ _; unfold byteCells at ho7 ⊢; rw [List.map_append]; exact ho7); have HS7 : Hid (Step w w7) := ⟨((fut w wo).trans ((fut wo (wo.alloc (.cells #[.int .u8 92, .int .u8 102] 5))).mono hwo)).trans hb7⟩; clear hq1 hq2 ho7 hg7 hb7)
        go_roundw
        case rel => exact ⟨k + 1, n + 2, c7, A7, out ++ [92, 102], by omega, rfl, by go_num, by show _ = _; rw [List.length_append, HL.out]; rfl, by omega, HST.out, HO7.out, HS7.out⟩
        case measure => simp [intOf]; omega
      · subst hv hq
        have HNEW : Hid (SlAt (wo.alloc (.cells #[.int .u8 92, .int .u8 110] 5)) (wo.alloc (.cells #[.int .u8 92, .int .u8 110] 5)).heap.size 1 (some ⟨wo.heap.size, 0, none⟩) (byteCells [92, 110])) := SlAt.new (w := wo) (size := 1) (l := byteCells [92, 110]) (cs := [.int .u8 92, .int .u8 110]) (t := 5) rfl (byte_fit _).len
        go_wp2_with (at_builtin; refine wpList_append_sl rfl (.tmp 47) (.tmp 48) 47 rfl eiByte (base := w.heap.size) (xs := byteCells out) rfl (HO.out.fut (w' := (wo.alloc (.cells #[.int .u8 92, .int .u8 110] 5)))) (byte_fit _) (ys := byteCells [92, 110]) rfl rfl HNEW.out (byte_fit _) (by simp only [byteCells, List.length_map, List.length_cons, List.length_nil, HL.out]; omega) (Nat.le_trans hwo (fut wo (wo.alloc (.cells #[.int .u8 92, .int .u8 110] 5))).size) (N := n + 2) (by simp only [byteCells, List.length_map, List.length_cons, List.length_nil, HL.out]) ?_; intro A7 c7 w7 hq1 hq2 ho7 hg7 hb7; have HO7 : Hid (Own w7 w.heap.size 5 1 (.slice A7 (n + 2) c7) (byteCells (out ++ [92, 110]))) := (by show Own _ _ _ _ _ _; unfold byteCells at ho7 ⊢; rw [List.map_append]; exact ho7); have HS7 : Hid (Step w w7) := ⟨((fut w wo).trans ((fut wo (wo.alloc (.cells #[.int .u8 92, .int .u8 110] 5))).mono hwo)).trans hb7⟩; clear hq1 hq2 ho7 hg7 hb7)
        go_roundw
        case rel => exact ⟨k + 1, n + 2, c7, A7, out ++ [92, 110], by omega, rfl, by go_num, by show _ = _; rw [List.length_append, HL.out]; rfl, by omega, HST.out, HO7.out, HS7.out⟩
        case measure => simp [intOf]; omega
      · subst hv hq
        have HNEW : Hid (SlAt (wo.alloc (.cells #[.int .u8 92, .int .u8 114] 5)) (wo.alloc (.cells #[.int .u8 92, .int .u8 114] 5)).heap.size 1 (some ⟨wo.heap.size, 0, none⟩) (byteCells [92, 114])) := SlAt.new (w := wo) (size := 1) (l := byteCells [92, 114]) (cs := [.int .u8 92, .int .u8 114]) (t := 5) rfl (byte_fit _).len
        go_wp2_with (at_builtin; refine wpList_append_sl rfl (.tmp 53) (.tmp 54) 47 rfl eiByte (base := w.heap.size) (xs := byteCells out) rfl (HO.out.fut (w' := (wo.alloc (.cells #[.int .u8 92, .int .u8 114] 5)))) (byte_fit _) (ys := byteCells [92, 114]) rfl rfl HNEW.out (byte_fit _) (by simp only [byteCells, List.length_map, List.length_cons, List.length_nil, HL.out]; omega) (Nat.le_trans hwo (fut wo (wo.alloc (.cells #[.int .u8 92, .int .u8 114] 5))).size) (N := n + 2) (by simp only [byteCells, List.length_map, List.length_cons, List.length_nil, HL.out]) ?_; intro A7 c7 w7 hq1 hq2 ho7 hg7 hb7; have HO7 : Hid (Own w7 w.heap.size 5 1 (.slice A7 (n + 2) c7) (byteCells (out ++ [92, 114]))) := (by show Own _ _ _ _ _ _; unfold byteCells at ho7 ⊢; rw [List.map_append]; exact ho7); have HS7 : Hid (Step w w7) := ⟨((fut w wo).trans ((fut wo (wo.alloc (.cells #[.int .u8 92, .int .u8 114] 5))).mono hwo)).trans hb7⟩; clear hq1 hq2 ho7 hg7 hb7)
        go_roundw
        case rel => exact ⟨k + 1, n + 2, c7, A7, out ++ [92, 114], by omega, rfl, by go_num, by show _ = _; rw [List.length_append, HL.out]; rfl, by omega, HST.out, HO7.out, HS7.out⟩
        case measure => simp [intOf]; omega
      · subst hv hq
        have HNEW : Hid (SlAt (wo.alloc (.cells #[.int .u8 92, .int .u8 116] 5)) (wo.alloc (.cells #[.int .u8 92, .int .u8 116] 5)).heap.size 1 (some ⟨wo.heap.size, 0, none⟩) (byteCells [92, 116])) := SlAt.new (w := wo) (size := 1) (l := byteCells [92, 116]) (cs := [.int .u8 92, .int .u8 116]) (t := 5) rfl (byte_fit _).len
        go_wp2_with (at_builtin; refine wpList_append_sl rfl (.tmp 59) (.tmp 60) 47 rfl eiByte (base := w.heap.size) (xs := byteCells out) rfl (HO.out.fut (w' := (wo.alloc (.cells #[.int .u8 92, .int .u8 116] 5)))) (byte_fit _) (ys := byteCells [92, 116]) rfl rfl HNEW.out (byte_fit _) (by simp only [byteCells, List.length_map, List.length_cons, List.length_nil, HL.out]; omega) (Nat.le_trans hwo (fut wo (wo.alloc (.cells #[.int .u8 92, .int .u8 116] 5))).size) (N := n + 2) (by simp only [byteCells, List.length_map, List.length_cons, List.length_nil, HL.out]) ?_; intro A7 c7 w7 hq1 hq2 ho7 hg7 hb7; have HO7 : Hid (Own w7 w.heap.size 5 1 (.slice A7 (n + 2) c7) (byteCells (out ++ [92, 116]))) := (by show Own _ _ _ _ _ _; unfold byteCells at ho7 ⊢; rw [List.map_append]; exact ho7); have HS7 : Hid (Step w w7) := ⟨((fut w wo).trans ((fut wo (wo.alloc (.cells #[.int .u8 92, .int .u8 116] 5))).mono hwo)).trans hb7⟩; clear hq1 hq2 ho7 hg7 hb7)
        go_roundw
        case rel => exact ⟨k + 1, n + 2, c7, A7, out ++ [92, 116], by omega, rfl, by go_num, by show _ = _; rw [List.length_append, HL.out]; rfl, by omega, HST.out, HO7.out, HS7.out⟩
        case measure => simp [intOf]; omega
      · subst hq
        obtain ⟨hv1, hv2, hv3, hv4, hv5, hv6⟩ := hv
        obtain ⟨X, hX⟩ : ∃ X : Int, (s[k].toNat : Int) = X := ⟨_, rfl⟩
        have hX2 : (x : Int) = X := by rw [← hX, hx]
        have e34 : (X == 34) = false := beq_eq_false_iff_ne.2 (by omega)
        have e92 : (X == 92) = false := beq_eq_false_iff_ne.2 (by omega)
        have e8 : (X == 8) = false := beq_eq_false_iff_ne.2 (by omega)
        have e12 : (X == 12) = false := beq_eq_false_iff_ne.2 (by omega)
        have e10 : (X == 10) = false := beq_eq_false_iff_ne.2 (by omega)
        have e13 : (X == 13) = false := beq_eq_false_iff_ne.2 (by omega)
        have e9 : (X == 9) = false := beq_eq_false_iff_ne.2 (by omega)
        have h32 : X < 32 := by omega
        have h0 : 0 ≤ X := by omega
        obtain ⟨Y, hY⟩ : ∃ Y : Int, X / 16 = Y := ⟨_, rfl⟩
        obtain ⟨Z, hZ⟩ : ∃ Z : Int, X % 16 = Z := ⟨_, rfl⟩
        have hY0 : 0 ≤ Y := by omega
        have hY1 : Y < 16 := by omega
        have hZ0 : 0 ≤ Z := by omega
        have hZ1 : Z < 16 := by omega
        have HHY : (UInt8.ofNat (48 + x / 16)) = hexD Y.toNat := by rw [show Y.toNat = x / 16 by omega, hexD, if_pos (by omega)]
        have hyt := hex_at ⟨Y.toNat, zt hY0 hY1⟩
        have hzt := hex_at ⟨Z.toNat, zt hZ0 hZ1⟩
        obtain ⟨V1, hV1⟩ : ∃ V : Int, (((⟨#[48, 49, 50, 51, 52, 53, 54, 55, 56, 57, 97, 98, 99, 100, 101, 102]⟩ : ByteArray)[Y.toNat]'(zt hY0 hY1)).toNat : Int) = V := ⟨_, rfl⟩
        obtain ⟨V2, hV2⟩ : ∃ V : Int, (((⟨#[48, 49, 50, 51, 52, 53, 54, 55, 56, 57, 97, 98, 99, 100, 101, 102]⟩ : ByteArray)[Z.toNat]'(zt hZ0 hZ1)).toNat : Int) = V := ⟨_, rfl⟩
        have hv1e : V1 = ((UInt8.ofNat (48 + x / 16)).toNat : Int) := by rw [← hV1, HHY]; exact congrArg (fun u : UInt8 => (u.toNat : Int)) hyt
        have hv2e : V2 = ((hexD (x % 16)).toNat : Int) := by rw [← hV2, show x % 16 = Z.toNat by omega]; exact congrArg (fun u : UInt8 => (u.toNat : Int)) hzt
        have HNEW : Hid (SlAt (wo.alloc (.cells #[.int .u8 92, .int .u8 117, .int .u8 48, .int .u8 48, .int .u8 V1, .int .u8 V2] 5)) (wo.alloc (.cells #[.int .u8 92, .int .u8 117, .int .u8 48, .int .u8 48, .int .u8 V1, .int .u8 V2] 5)).heap.size 1 (some ⟨wo.heap.size, 0, none⟩) (byteCells [92, 117, 48, 48, UInt8.ofNat (48 + x / 16), hexD (x % 16)])) := SlAt.new (w := wo) (size := 1) (l := byteCells [92, 117, 48, 48, UInt8.ofNat (48 + x / 16), hexD (x % 16)]) (cs := [.int .u8 92, .int .u8 117, .int .u8 48, .int .u8 48, .int .u8 V1, .int .u8 V2]) (t := 5) (by rw [hv1e, hv2e]; rfl) (byte_fit _).len
        have hYt : X.tdiv 16 = Y := by rw [Int.tdiv_eq_ediv_of_nonneg h0]; exact hY
        have hZt : X.tmod 16 = Z := by rw [Int.tmod_eq_emod_of_nonneg h0]; exact hZ
        have hYw : IntKind.u8.wrap Y = Y := by rw [IntKind.wrap_u8]; omega
        have hZw : IntKind.u8.wrap Z = Z := by rw [IntKind.wrap_u8]; omega
        clear hv1e hv2e hyt hzt HHY hX2 hx hY hZ
        go_upto_region 21 with fail
        refine wp_region_held_drew (S := (fun _ => True ∧ True)) (by kernel_rfl) (by (try dsimp only); (exact ⟨trivial, trivial⟩)) (fun hHeld => ?_)
        refine wpAnyH_take (i := 0) (oi := ⟨some 65, _, _, _, _, _⟩) (v := ?_) rfl (by kernel_rfl) (by kernel_rfl) (by kernel_rfl) (fun _ _ _ h => h) (Or.inl ⟨by rfl, ?_⟩) (by assumption) ?_
        rotate_left
        · ((intro w hSw); (try dsimp only at hSw); go_simp; (try with_reducible rfl))
        (try simp only [Act.put, List.setIfInBounds_toArray, List.set_cons_zero, List.set_cons_succ])
        refine wpAnyH_take (i := 1) (oi := ⟨some 66, _, _, _, _, _⟩) (v := ?_) rfl (by kernel_rfl) (by kernel_rfl) (by kernel_rfl) (fun _ _ _ h => h) (Or.inl ⟨by rfl, ?_⟩) (by assumption) ?_
        rotate_left
        · ((intro w hSw); (try dsimp only at hSw); go_simp; (try with_reducible rfl))
        (try simp only [Act.put, List.setIfInBounds_toArray, List.set_cons_zero, List.set_cons_succ])
        refine wpAnyH_take (i := 2) (oi := ⟨some 67, _, _, _, _, _⟩) (v := ?_) rfl (by kernel_rfl) (by kernel_rfl) (by kernel_rfl) (fun _ _ _ h => h) (Or.inl ⟨by rfl, ?_⟩) (by assumption) ?_
        rotate_left
        · ((intro w hSw); (try dsimp only at hSw); go_simp; (try with_reducible rfl))
        (try simp only [Act.put, List.setIfInBounds_toArray, List.set_cons_zero, List.set_cons_succ])
        refine wpAnyH_take (i := 5) (oi := ⟨some 70, _, _, _, _, _⟩) (v := ?_) rfl (by kernel_rfl) (by kernel_rfl) (by kernel_rfl) (fun _ _ _ h => h) (Or.inl ⟨by rfl, ?_⟩) (by assumption) ?_
        rotate_left
        · ((intro w hSw); (try dsimp only at hSw); go_simp; (try with_reducible rfl))
        (try simp only [Act.put, List.setIfInBounds_toArray, List.set_cons_zero, List.set_cons_succ])
        refine wpAnyH_take (i := 6) (oi := ⟨some 71, _, _, _, _, _⟩) (v := ?_) rfl (by kernel_rfl) (by kernel_rfl) (by kernel_rfl) (fun _ _ _ h => h) (Or.inl ⟨by rfl, ?_⟩) (by assumption) ?_
        rotate_left
        · ((intro w hSw); (try dsimp only at hSw); go_simp; (try with_reducible rfl))
        (try simp only [Act.put, List.setIfInBounds_toArray, List.set_cons_zero, List.set_cons_succ])
        refine wpAnyH_take (i := 3) (oi := ⟨some 68, _, _, _, _, _⟩) (v := ?_) rfl (by kernel_rfl) (by kernel_rfl) (by kernel_rfl) (fun _ _ _ h => h) (Or.inl ⟨by rfl, ?_⟩) (by assumption) ?_
        rotate_left
        · ((intro w hSw); (try dsimp only at hSw); go_simp; (try with_reducible rfl))
        (try simp only [Act.put, List.setIfInBounds_toArray, List.set_cons_zero, List.set_cons_succ])
        refine wpAnyH_take (i := 7) (oi := ⟨some 72, _, _, _, _, _⟩) (v := ?_) rfl (by kernel_rfl) (by kernel_rfl) (by kernel_rfl) (fun _ _ _ h => h) (Or.inl ⟨by rfl, ?_⟩) (by assumption) ?_
        rotate_left
        · ((intro w hSw); (try dsimp only at hSw); go_simp; (try with_reducible rfl))
        (try simp only [Act.put, List.setIfInBounds_toArray, List.set_cons_zero, List.set_cons_succ])
        refine wpAnyH_take (i := 4) (oi := ⟨some 69, _, _, _, _, _⟩) (v := ?_) rfl (by kernel_rfl) (by kernel_rfl) (by kernel_rfl) (fun _ _ _ h => h) (Or.inl ⟨by rfl, ?_⟩) (by assumption) ?_
        rotate_left
        · ((intro w hSw); (try dsimp only at hSw); go_simp; (try with_reducible rfl))
        (try simp only [Act.put, List.setIfInBounds_toArray, List.set_cons_zero, List.set_cons_succ])
        refine wpAnyH_take (i := 8) (oi := ⟨some 73, _, _, _, _, _⟩) (v := ?_) rfl (by kernel_rfl) (by kernel_rfl) (by kernel_rfl) (fun _ _ _ h => h) (Or.inl ⟨by rfl, ?_⟩) (by assumption) ?_
        rotate_left
        · ((intro w hSw); (try dsimp only at hSw); go_simp; (try with_reducible rfl))
        (try simp only [Act.put, List.setIfInBounds_toArray, List.set_cons_zero, List.set_cons_succ])
        refine wpAnyH_ready (rs := [9]) (by kernel_rfl) (by simp) ?_
        refine AllReadyH.cons (o := ⟨some 74, _, _, _, _, _⟩) rfl (fun K hK => ?_) AllReadyH.nil
        go_simp
        refine hK.out _ _ (by (try dsimp only); (exact ⟨trivial, trivial⟩)) (fun hHeld => ?_)
        clear hK K
        (try simp only [Act.put, List.setIfInBounds_toArray, List.set_cons_zero, List.set_cons_succ])
        refine wpAnyH_ready (rs := [10]) (by kernel_rfl) (by simp) ?_
        refine AllReadyH.cons (o := ⟨some 75, _, _, _, _, _⟩) rfl (fun K hK => ?_) AllReadyH.nil
        (refine step_append_sl rfl (.tmp 65) (.tmp 74) 47 rfl eiByte (base := w.heap.size) (xs := byteCells out) rfl (HO.out.fut (w' := (wo.alloc (.cells #[.int .u8 92, .int .u8 117, .int .u8 48, .int .u8 48, .int .u8 V1, .int .u8 V2] 5)))) (byte_fit _) (ys := byteCells [92, 117, 48, 48, UInt8.ofNat (48 + x / 16), hexD (x % 16)]) rfl rfl HNEW.out (byte_fit _) (by simp only [byteCells, List.length_map, List.length_cons, List.length_nil, HL.out]; omega) (Nat.le_trans hwo (fut wo (wo.alloc (.cells #[.int .u8 92, .int .u8 117, .int .u8 48, .int .u8 48, .int .u8 V1, .int .u8 V2] 5))).size) (N := n + 6) (by simp only [byteCells, List.length_map, List.length_cons, List.length_nil, HL.out]) ?_; intro A7 c7 w7 hq1 hq2 ho7 hg7 hb7; have HO7 : Hid (Own w7 w.heap.size 5 1 (.slice A7 (n + 6) c7) (byteCells (out ++ [92, 117, 48, 48, UInt8.ofNat (48 + x / 16), hexD (x % 16)]))) := (by show Own _ _ _ _ _ _; unfold byteCells at ho7 ⊢; rw [List.map_append]; exact ho7); have HS7 : Hid (Step w w7) := ⟨((fut w wo).trans ((fut wo (wo.alloc (.cells #[.int .u8 92, .int .u8 117, .int .u8 48, .int .u8 48, .int .u8 V1, .int .u8 V2] 5)).drew).mono hwo)).trans hb7⟩; clear hq1 hq2 ho7 hg7 hb7)
        refine hK.out _ _ (by (try dsimp only); (exact ⟨trivial, trivial⟩)) (fun hHeld => ?_)
        clear hK K
        (try simp only [Act.put, List.setIfInBounds_toArray, List.set_cons_zero, List.set_cons_succ])
        refine wpAnyH_take (i := 11) (oi := ⟨some 3, _, _, _, _, _⟩) (v := ?_) rfl (by kernel_rfl) (by kernel_rfl) (by kernel_rfl) (fun _ _ _ h => h) (Or.inl ⟨by rfl, ?_⟩) (by assumption) ?_
        rotate_left
        · ((intro w hSw); (try dsimp only at hSw); go_simp; (try with_reducible rfl))
        (try simp only [Act.put, List.setIfInBounds_toArray, List.set_cons_zero, List.set_cons_succ])
        refine wpAnyH_done (by kernel_rfl) ?_ _
        go_wp2_with fail
        go_roundw
        case rel => exact ⟨k + 1, n + 6, c7, A7, out ++ [92, 117, 48, 48, UInt8.ofNat (48 + x / 16), hexD (x % 16)], by omega, rfl, by go_num, by show _ = _; rw [List.length_append, HL.out]; rfl, by omega, HST.out, HO7.out, HS7.out⟩
        case measure => simp [intOf]; omega
      · subst hq
        obtain ⟨hv1, hv2, hv3⟩ := hv
        obtain ⟨X, hX⟩ : ∃ X : Int, (s[k].toNat : Int) = X := ⟨_, rfl⟩
        have hX2 : (x : Int) = X := by rw [← hX, hx]
        have e34 : (X == 34) = false := beq_eq_false_iff_ne.2 (by omega)
        have e92 : (X == 92) = false := beq_eq_false_iff_ne.2 (by omega)
        have e8 : (X == 8) = false := beq_eq_false_iff_ne.2 (by omega)
        have e12 : (X == 12) = false := beq_eq_false_iff_ne.2 (by omega)
        have e10 : (X == 10) = false := beq_eq_false_iff_ne.2 (by omega)
        have e13 : (X == 13) = false := beq_eq_false_iff_ne.2 (by omega)
        have e9 : (X == 9) = false := beq_eq_false_iff_ne.2 (by omega)
        have h32 : ¬ X < 32 := by omega
        have HNEW : Hid (SlAt (wo.alloc (.cells #[.int .u8 X] 5)) (wo.alloc (.cells #[.int .u8 X] 5)).heap.size 1 (some ⟨wo.heap.size, 0, none⟩) (byteCells [s[k]])) := SlAt.new (w := wo) (size := 1) (l := byteCells [s[k]]) (cs := [.int .u8 X]) (t := 5) (by rw [← hX]; rfl) (byte_fit _).len
        clear hX2 hx
        go_wp2_with (at_builtin; refine wpList_append_sl rfl (.tmp 17) (.tmp 19) 47 rfl eiByte (base := w.heap.size) (xs := byteCells out) rfl (HO.out.fut (w' := (wo.alloc (.cells #[.int .u8 X] 5)))) (byte_fit _) (ys := byteCells [s[k]]) rfl rfl HNEW.out (byte_fit _) (by simp only [byteCells, List.length_map, List.length_cons, List.length_nil, HL.out]; omega) (Nat.le_trans hwo (fut wo (wo.alloc (.cells #[.int .u8 X] 5))).size) (N := n + 1) (by simp only [byteCells, List.length_map, List.length_cons, List.length_nil, HL.out]) ?_; intro A7 c7 w7 hq1 hq2 ho7 hg7 hb7; have HO7 : Hid (Own w7 w.heap.size 5 1 (.slice A7 (n + 1) c7) (byteCells (out ++ [s[k]]))) := (by show Own _ _ _ _ _ _; unfold byteCells at ho7 ⊢; rw [List.map_append]; exact ho7); have HS7 : Hid (Step w w7) := ⟨((fut w wo).trans ((fut wo (wo.alloc (.cells #[.int .u8 X] 5))).mono hwo)).trans hb7⟩; clear hq1 hq2 ho7 hg7 hb7)
        go_roundw
        case rel => exact ⟨k + 1, n + 1, c7, A7, out ++ [s[k]], by omega, rfl, by go_num, by show _ = _; rw [List.length_append, HL.out]; rfl, by omega, HST.out, HO7.out, HS7.out⟩
        case measure => simp [intOf]; omega
    · obtain rfl : k = s.size := by omega
      clear hlt
      have HNEW : Hid (SlAt (wo.alloc (.cells #[.int .u8 34] 5)) (wo.alloc (.cells #[.int .u8 34] 5)).heap.size 1 (some ⟨wo.heap.size, 0, none⟩) (byteCells [34])) := SlAt.new (w := wo) (size := 1) (l := byteCells [34]) (cs := [.int .u8 34]) (t := 5) rfl (byte_fit _).len
      have HF : Hid (out ++ [34] = quoteL s) := by show _ = _; rw [HOUT.out, HE.out]
      go_upto_region 23 with (at_builtin; refine wpList_append_sl rfl (.tmp 76) (.tmp 77) 47 rfl eiByte (base := w.heap.size) (xs := byteCells out) rfl (HO.out.fut (w' := (wo.alloc (.cells #[.int .u8 34] 5)))) (byte_fit _) (ys := byteCells [34]) rfl rfl HNEW.out (byte_fit _) (by simp only [byteCells, List.length_map, List.length_cons, List.length_nil, HL.out]; omega) (Nat.le_trans hwo (fut wo (wo.alloc (.cells #[.int .u8 34] 5))).size) (N := n + 1) (by simp only [byteCells, List.length_map, List.length_cons, List.length_nil, HL.out]) ?_; intro A7 c7 w7 hq1 hq2 ho7 hg7 hb7; have HO7 : Hid (Own w7 w.heap.size 5 1 (.slice A7 (n + 1) c7) (byteCells (out ++ [34]))) := (by show Own _ _ _ _ _ _; unfold byteCells at ho7 ⊢; rw [List.map_append]; exact ho7); have HS7 : Hid (Step w w7) := ⟨((fut w wo).trans ((fut wo (wo.alloc (.cells #[.int .u8 34] 5))).mono hwo)).trans hb7⟩; clear hq1 hq2 ho7 hg7 hb7)
      have hcv := bytes_convE (c := c7) (HO7.out.sl (byte_fit _).len) (n := n + 1) (by rw [List.length_append, HL.out]; rfl)
      rw [HF.out] at hcv
      have hs7 := HS7.out
      go_wp2_with fail
      go_ret
      exact ⟨rfl, Step.of⟩
end Go.Proofs.YtoibfefalflooaaDoor
