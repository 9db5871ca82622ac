/-
  The document's parts, Varint, Zig, Width, Crc and Seal: that each answers, and how long a text it gives.
-/
import Derived.Test.YtinpnginjpfbpaaDoorDecd
import Derived.Test.YtinpnginjpfbpaaDoorCm
import Derived.Test.YtinpnginjpfbpaaDoorVc
import Derived.Test.YtinpnginjpfbpaaDoorRo
namespace Go.Proofs.YtinpnginjpfbpaaDoor
open Go.RowKit

theorem byte_any {z : Int} (h0 : 0 ≤ z) (h1 : z < 256) : ∃ d : UInt8, (d.toNat : Int) = z := ⟨UInt8.ofNat z.toNat, by simp; omega⟩
def pB (n : Nat) : Int := 2 ^ (64 - 7 * n)
theorem pB_step (n : Nat) (hn : n ≤ 9) (x : Int) (h : 128 ≤ x) (hx : x < pB n) : n + 1 ≤ 9 ∧ x / 128 < pB (n + 1) := by
  have : n = 0 ∨ n = 1 ∨ n = 2 ∨ n = 3 ∨ n = 4 ∨ n = 5 ∨ n = 6 ∨ n = 7 ∨ n = 8 ∨ n = 9 := by omega
  rcases this with rfl | rfl | rfl | rfl | rfl | rfl | rfl | rfl | rfl | rfl <;> simp [pB] at hx ⊢ <;> omega
/-- A text, and how long it is at most. -/
def Txt (n : Nat) (w : World) (e : Ending) (w' : World) : Prop := ∃ b : ByteArray, e = .returned (.string b) ∧ b.size ≤ n ∧ Step w w'

set_option maxRecDepth 100000 in
set_option maxHeartbeats 4000000 in
theorem parts_any (x : Int) (w : World) (h0 : 0 ≤ x) (h1 : x < 18446744073709551616) : Calls Tryd.prog 66 #[.int .u64 x] w (Txt 10 w) := by
  go_enter Tryd.func66, Tryd.ntmps66
  go_wp2_with fail
  go_loopw [0, 3] (fun xv ov wr => ∃ (n : Nat) (y : Int) (A : Option Addr) (c : Nat) (l : List UInt8), n ≤ 9 ∧ xv = .int .u64 y ∧ (0 ≤ y ∧ y < 18446744073709551616) ∧ y < pB n ∧ ov = .slice A n c ∧ Hid (l.length = n) ∧ Own wr w.heap.size 5 1 (.slice A n c) (byteCells l) ∧ Step w wr) (fun xv _ _ => (intOf xv).toNat)
  case atStart => exact ⟨0, x, none, 0, [], Nat.zero_le _, rfl, ⟨h0, h1⟩, by simpa [pB] using h1, rfl, rfl, Own.nil_ _ _ _ _, Step.of⟩
  case round =>
    obtain ⟨n, y, A, c, l, hn, rfl, ⟨hy0, hyt⟩, hy1, rfl, HL, hown, hst⟩ := hrel
    have HO := hide hown; clear hown
    obtain ⟨wo, rfl⟩ : ∃ x : World, x = wr := ⟨_, rfl⟩
    have hzo := hst.size
    have hbl : (byteCells l).length = n := by rw [byteCells, List.length_map, HL.out]
    have HBL := hide hbl
    clear hbl
    by_cases hy : 128 ≤ y
    · obtain ⟨hn2, hy2⟩ := pB_step n hn y hy hy1
      obtain ⟨d, hd⟩ := byte_any (z := y % 128 + 128) (by omega) (by omega)
      have HY2 := hide hy2; have HD := hide hd
      have hq : IntKind.u64.wrap (y.tdiv 128) = y / 128 := by rw [Int.tdiv_eq_ediv_of_nonneg hy0, IntKind.wrap_u64]; omega
      have HOW := hide (HO.out.alloc (.cells #[.int .u8 (y % 128 + 128)] 5))
      have HNew := hide (SlAt.one wo 1 [.int .u8 (y % 128 + 128)] 5)
      have HNF : Hid (Fit 1 [[.int .u8 (y % 128 + 128)]]) := by show Fit _ _; rw [← HD.out]; exact byte_fit [d]
      clear hy2 hd hy1
      go_wp2_with (at_builtin; go_loud (refine wpList_append_sl rfl (.tmp 6) (.tmp 11) 78 rfl eiByte (base := w.heap.size) (xs := byteCells l) rfl HOW.out (byte_fit _) (ys := [[.int .u8 (y % 128 + 128)]]) rfl (by simp) HNew.out HNF.out (by rw [HBL.out]; show (n + 1) * 1 ≤ _; omega) (fut w (wo.alloc (.cells #[.int .u8 (y % 128 + 128)] 5))).size (N := n + 1) (by rw [HBL.out]; rfl) ?_; intro A7 c7 w7 hq1 hq2 hown7 hgr7 hbel7; have H7 := hide hown7; have hs7 : Step w w7 := ⟨(fut w (wo.alloc (.cells #[.int .u8 (y % 128 + 128)] 5))).trans hbel7⟩; clear hown7 hgr7 hbel7))
      go_roundw
      case rel => exact ⟨n + 1, y / 128, A7, c7, l ++ [d], hn2, rfl, by omega, HY2.out, rfl, by show _ = _; rw [List.length_append, HL.out]; rfl, by have h_ := H7.out; rw [← HD.out] at h_; simpa [byteCells] using h_, hs7⟩
      case measure => simp [intOf]; omega
    · have hy3 : y < 128 := by omega
      obtain ⟨d, hd⟩ := byte_any (z := y) (by omega) (by omega)
      have HD := hide hd
      have HOW := hide (HO.out.alloc (.cells #[.int .u8 y] 5))
      have HNew := hide (SlAt.one wo 1 [.int .u8 y] 5)
      have HNF : Hid (Fit 1 [[.int .u8 y]]) := by show Fit _ _; rw [← HD.out]; exact byte_fit [d]
      clear hd hy1
      go_upto_region 6 with (at_builtin; go_loud (refine wpList_append_sl rfl (.tmp 15) (.tmp 18) 78 rfl eiByte (base := w.heap.size) (xs := byteCells l) rfl HOW.out (byte_fit _) (ys := [[.int .u8 y]]) rfl (by simp) HNew.out HNF.out (by rw [HBL.out]; show (n + 1) * 1 ≤ _; omega) (fut w (wo.alloc (.cells #[.int .u8 y] 5))).size (N := n + 1) (by rw [HBL.out]; rfl) ?_; intro A7 c7 w7 hq1 hq2 hown7 hgr7 hbel7; have H7 := hide hown7; have hs7 : Step w w7 := ⟨(fut w (wo.alloc (.cells #[.int .u8 y] 5))).trans hbel7⟩; clear hown7 hgr7 hbel7))
      have h_ : Own w7 w.heap.size 5 1 (.slice A7 (n + 1) c7) (byteCells (l ++ [d])) := by have h_ := H7.out; rw [← HD.out] at h_; simpa [byteCells] using h_
      have hln : (l ++ [d]).length = n + 1 := by rw [List.length_append, HL.out]; rfl
      have hcv := bytes_conv (c := c7) (h_.sl (byte_fit _).len) hln (by omega)
      have HSZ : Hid ((⟨(l ++ [d]).toArray⟩ : ByteArray).size ≤ 10) := by show (l ++ [d]).toArray.size ≤ 10; simp [List.size_toArray]; have := HL.out; omega
      generalize (⟨(l ++ [d]).toArray⟩ : ByteArray) = b at hcv HSZ
      clear h_ hln
      go_wp2_with fail
      go_ret
      exact ⟨b, rfl, HSZ.out, Step.of⟩
set_option maxRecDepth 100000 in
theorem varint_any (x : Int) (w : World) (h0 : 0 ≤ x) (h1 : x ≤ 9223372036854775807) : Calls Tryd.prog 51 #[.int .i64 x] w (Txt 10 w) := by
  have hcv : IntKind.u64.wrap x = x := by rw [IntKind.wrap_u64]; omega
  have P := parts_any x w h0 (by omega)
  unfold Txt at P ⊢
  have P := hide P
  go_enter Tryd.func51, Tryd.ntmps51
  go_wp2_with (go_at_call 66; (with_reducible refine P.out.mono ?_); rintro e w1 ⟨b, rfl, hb, hs1⟩)
  go_ret
  exact ⟨b, rfl, hb, Step.of⟩
set_option maxRecDepth 100000 in
theorem zig_any (x : Int) (w : World) : Calls Tryd.prog 73 #[.int .i64 x] w (Txt 10 w) := by
  have P := fun y (h0 : 0 ≤ y) (h1 : y < 18446744073709551616) => parts_any y w h0 h1
  unfold Txt at P ⊢
  have P := hide P
  by_cases hx : x < 0
  · go_enter Tryd.func73, Tryd.ntmps73
    go_wp2_with (go_at_call 66; go_loud (refine (P.out _ (by first | omega | (simp only [IntKind.wrap_u64]; omega)) (by first | omega | (simp only [IntKind.wrap_u64]; omega))).mono ?_); rintro e w1 ⟨b, rfl, hb, hs1⟩)
    go_ret
    exact ⟨b, rfl, hb, Step.of⟩
  · go_enter Tryd.func73, Tryd.ntmps73
    go_wp2_with (go_at_call 66; go_loud (refine (P.out _ (by first | omega | (simp only [IntKind.wrap_u64]; omega)) (by first | omega | (simp only [IntKind.wrap_u64]; omega))).mono ?_); rintro e w1 ⟨b, rfl, hb, hs1⟩)
    go_ret
    exact ⟨b, rfl, hb, Step.of⟩
set_option maxRecDepth 100000 in
theorem width_any (x : Int) (w : World) (h1 : x ≤ 9223372036854775807) : Calls Tryd.prog 64 #[.int .i64 x] w fun e w' => ∃ k : Int, e = .returned (.int .i64 k) ∧ 0 ≤ k ∧ (x ≤ 4096 → k ≤ 13) ∧ w = w' := by
  go_enter Tryd.func64, Tryd.ntmps64
  go_wp2_with fail
  go_loopw [0, 3] (fun xv kv wr => ∃ (y : Int) (k : Nat), xv = .int .i64 y ∧ kv = .int .i64 k ∧ y ≤ 9223372036854775807 ∧ k ≤ 63 ∧ (0 < y → y < 2 ^ (63 - k)) ∧ Hid (x ≤ 4096 → k ≤ 13 ∧ (0 < y → y < 2 ^ (13 - k))) ∧ w = wr) (fun xv _ _ => (intOf xv).toNat)
  case atStart => exact ⟨x, 0, rfl, rfl, h1, by omega, by omega, fun h => ⟨by omega, by omega⟩, rfl⟩
  case round =>
    obtain ⟨y, k, rfl, rfl, hy, hk, hyk, H13, rfl⟩ := hrel
    by_cases h : 0 < y
    · have hst : k + 1 ≤ 63 ∧ (0 < y / 2 → y / 2 < 2 ^ (63 - (k + 1))) := by
        have h2 := hyk h
        have : k ≤ 62 := by
          rcases Nat.lt_or_ge k 63 with q | q
          · omega
          · obtain rfl : k = 63 := by omega
            simp at h2; omega
        refine ⟨by omega, fun _ => ?_⟩
        have e : (2 : Int) ^ (63 - k) = 2 ^ (63 - (k + 1)) * 2 := by rw [← Int.pow_succ]; congr 1; omega
        omega
      have h13 : x ≤ 4096 → k + 1 ≤ 13 ∧ (0 < y / 2 → y / 2 < 2 ^ (13 - (k + 1))) := fun hx => by
        obtain ⟨q1, q2⟩ := H13.out hx
        have h2 := q2 h
        have : k ≤ 12 := by
          rcases Nat.lt_or_ge k 13 with q | q
          · omega
          · obtain rfl : k = 13 := by omega
            simp at h2; omega
        refine ⟨by omega, fun _ => ?_⟩
        have e : (2 : Int) ^ (13 - k) = 2 ^ (13 - (k + 1)) * 2 := by rw [← Int.pow_succ]; congr 1; omega
        omega
      have HST := hide hst; have HTT := hide h13
      clear hst h13 hyk H13
      go_wp2_with fail
      go_roundw
      case rel => exact ⟨y / 2, k + 1, rfl, by go_num, by omega, HST.out.1, HST.out.2, HTT.out, by first | rfl | trivial⟩
      case measure => simp [intOf]; omega
    · clear hyk
      go_wp2_with fail
      go_ret
      exact ⟨(k : Int), rfl, by omega, fun hx => by have := (H13.out hx).1; omega, rfl⟩
end Go.Proofs.YtinpnginjpfbpaaDoor
