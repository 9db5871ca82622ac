/-
  The document's Seal: that it answers, and how long a text it gives.
-/
import Derived.Test.YtinpnginjpfbpaaDoorVa
import Derived.Test.YtinpnginjpfbpaaDoorCrcd
namespace Go.Proofs.YtinpnginjpfbpaaDoor
open Go.RowKit

set_option maxRecDepth 100000 in
theorem seal_any (s : ByteArray) (w : World) (hs : s.size ≤ 1000000000) : Calls Tryd.prog 50 #[.string s] w (Txt (s.size + 4) w) := by
  unfold Txt
  have HC := hide (fun w' => rcrc_any s w' (by omega))
  have hc0 : (0 : Int) ≤ (crcT s : Int) := by omega
  have hc1 : (crcT s : Int) < 4294967296 := by have := crcT_lt s; omega
  obtain ⟨c, hc⟩ : ∃ c : Int, (crcT s : Int) = c := ⟨_, rfl⟩
  rw [hc] at HC hc0 hc1
  clear hc
  go_enter Tryd.func50, Tryd.ntmps50
  go_upto_region 2 with (go_at_call 65; (with_reducible refine (HC.out _).mono ?_); rintro e w1 ⟨rfl, hs1⟩)
  obtain ⟨d1, h1⟩ := byte_any (z := c / 16777216) (by omega) (by omega)
  obtain ⟨d2, h2⟩ := byte_any (z := bits BinOp.and IntKind.i64 (c / 65536) 255 % 256) (by omega) (by omega)
  obtain ⟨d3, h3⟩ := byte_any (z := bits BinOp.and IntKind.i64 (c / 256) 255 % 256) (by omega) (by omega)
  obtain ⟨d4, h4⟩ := byte_any (z := bits BinOp.and IntKind.i64 c 255 % 256) (by omega) (by omega)
  have hsl := SlAt.new (w := w1) (size := 1) (l := byteCells [d1, d2, d3, d4]) (cs := [.int .u8 (d1.toNat : Int), .int .u8 (d2.toNat : Int), .int .u8 (d3.toNat : Int), .int .u8 (d4.toNat : Int)]) (t := 5) rfl (byte_fit _).len
  rw [h1, h2, h3, h4] at hsl
  have hcv := bytes_conv (c := 4) (n := 4) hsl rfl (by decide)
  clear hsl h1 h2 h3 h4
  generalize hb : (⟨[d1, d2, d3, d4].toArray⟩ : ByteArray) = b at hcv
  have HB : Hid (b.size = 4) := by show _ = _; rw [← hb]; rfl
  clear hb
  have hcat : ¬ 9223372036854775807 < s.size + b.size := by rw [HB.out]; omega
  go_wp2_with fail
  go_ret
  exact ⟨s ++ b, rfl, by rw [ByteArray.size_append, HB.out]; omega, Step.of⟩
end Go.Proofs.YtinpnginjpfbpaaDoor
