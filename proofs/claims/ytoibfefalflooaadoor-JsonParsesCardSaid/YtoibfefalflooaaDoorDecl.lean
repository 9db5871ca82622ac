/-
  The documents own digits of a number.
-/
import Derived.Test.YtoibfefalflooaaDoorBl
import Derived.Laws.IdiomStrings
namespace Go.Proofs.YtoibfefalflooaaDoor
open Go.RowKit

def byteCells (l : List UInt8) : List (List Value) := l.map fun b => [.int .u8 (b.toNat : Int)]
theorem byte_fit (l : List UInt8) : Fit 1 (byteCells l) := Fit.map (f := fun b : UInt8 => [Value.int .u8 (b.toNat : Int)]) (fun b => ⟨rfl, fun u hu => by simp at hu; rw [hu]; rfl⟩) l
theorem eiByte : EI Tryd.prog 47 5 1 1 :=
  ⟨Tryd.underlying47, info_parts (show (Tryd.prog.info? 5).map (fun i => (i.zero, i.size, i.bytes)) = some (some (.int .u8 0), 1, 1) by kernel_rfl) |>.elim fun i h => ⟨i, _, h.1, h.2.1, h.2.2.1, h.2.2.2, rfl⟩, by decide, by decide⟩

/-- Bytes that a slice leads to, as a text. -/
theorem bytes_conv {W : World} {A : Option Addr} {c n : Nat} {l : List UInt8} (h : SlAt W W.heap.size 1 A (byteCells l)) (hn : l.length = n) (hp : 0 < n) : (convert 47 9 (.slice A n c)).run Tryd.prog W = .ok (.string ⟨l.toArray⟩) W := by
  subst hn
  obtain ⟨b, off, rfl, _, hc⟩ := h (by simpa [byteCells] using hp)
  exact run_convert_bytes_back (P := Tryd.prog) W 47 9 5 ⟨b, off, none⟩ c l Tryd.underlying47 Tryd.underlying5 Tryd.underlying9 (fun j hj => by
    have := hc j [.int .u8 (l[j].toNat : Int)] (by simp [byteCells, hj]) 0 _ rfl
    rw [Go.WideShapes.add_plain]
    simpa using this)

def lenV : Value → Nat | .slice _ n _ => n | _ => 0
def digs : Nat → Nat → List UInt8 → List UInt8
  | 0, _, acc => acc
  | f + 1, m, acc => if m = 0 ∧ acc ≠ [] then acc else digs f (m / 10) (UInt8.ofNat (48 + m % 10) :: acc)
def decB (n : Nat) : ByteArray := ⟨(digs 20 n []).toArray⟩

theorem digs_len : ∀ (f m : Nat) (acc : List UInt8), (digs f m acc).length ≤ acc.length + f
  | 0, _, acc => by simp [digs]
  | f + 1, m, acc => by
    rw [digs]
    split
    · omega
    · have := digs_len f (m / 10) (UInt8.ofNat (48 + m % 10) :: acc)
      simp only [List.length_cons] at this
      omega
theorem decB_size (n : Nat) : (decB n).size ≤ 20 := by
  have := digs_len 20 n []
  simpa [decB, ByteArray.size] using this

set_option maxRecDepth 10000 in
set_option maxHeartbeats 2000000 in
theorem decimal_any (n : Nat) (hn : n ≤ 9223372036854775807) (w : World) : Calls Tryd.prog 18 #[.int .i64 n] w fun e w' => e = .returned (.string (decB n)) ∧ Step w w' := by
  obtain ⟨R, hR⟩ : ∃ R, digs 20 n [] = R := ⟨_, rfl⟩
  have HR : Hid (decB n = ⟨R.toArray⟩) := by unfold decB; rw [hR]; rfl
  have H0 := hide hR; clear hR
  rw [HR.out]
  have hp0 : (0 : Int) ≤ (n : Int) := by omega
  have hp1 : (n : Int) ≤ 9223372036854775807 := by omega
  have hcv : IntKind.u64.wrap (n : Int) = (n : Int) := by rw [IntKind.wrap_u64]; omega
  go_enter Tryd.func18, Tryd.ntmps18
  go_wp2
  clear hcv
  go_loopw [3, 4] (fun x v wr => ∃ (f m : Nat) (A : Option Addr) (c : Nat) (l : List UInt8), x = .int .u64 m ∧ v = .slice A l.length c ∧ m ≤ 9223372036854775807 ∧ m < 10 ^ f ∧ l.length + f ≤ 20 ∧ (f = 0 → l ≠ []) ∧ Own wr w.heap.size 5 1 (.slice A l.length c) (byteCells l) ∧ digs f m l = R ∧ Step w wr) (fun x v _ => (intOf x).toNat + (1 - lenV v))
  case atStart => exact ⟨20, n, none, 0, [], rfl, rfl, hn, by omega, by simp, by simp, Own.nil_ _ _ _ _, H0.out, Step.of⟩
  case round =>
    obtain ⟨f, m, A, c, l, rfl, rfl, hm, hmf, hlf, hf0, hown, hd, hst⟩ := hrel
    have HD := hide hd; clear hd
    have HF := hide hf0; clear hf0
    have HMF := hide hmf; clear hmf
    have HO := hide hown; clear hown
    have hz := hst.size
    by_cases hlast : m = 0 ∧ l ≠ []
    · obtain ⟨rfl, hl⟩ := hlast
      have hl0 : 0 < l.length := List.length_pos_iff.2 hl
      have hl1 : ((l.length : Int) == 0) = false := by simp; omega
      have HL : Hid (R = l) := by
        have := HD.out
        cases f with
        | zero => exact this.symm
        | succ f => rw [digs, if_pos ⟨rfl, hl⟩] at this; exact this.symm
      have hcv := bytes_conv (c := c) (HO.out.sl (byte_fit _).len) rfl hl0
      clear hl
      go_wp2
      go_ret
      exact ⟨by rw [HL.out]; rfl, hst⟩
    · obtain ⟨f, rfl⟩ : ∃ g, f = g + 1 := by
        cases f with
        | zero =>
          have := HMF.out
          simp at this
          exact absurd ⟨this, HF.out rfl⟩ hlast
        | succ g => exact ⟨g, rfl⟩
      have HS : Hid (digs f (m / 10) (UInt8.ofNat (48 + m % 10) :: l) = R) := by have := HD.out; rw [digs, if_neg hlast] at this; exact this
      obtain ⟨d, hd0, hd1⟩ : ∃ d : UInt8, d = UInt8.ofNat (48 + m % 10) ∧ (d.toNat : Int) = 48 + (m : Int) % 10 := ⟨_, rfl, by simp; omega⟩
      rw [← hd0] at HS
      have HD1 := hide hd1; have HD0 := hide hd0; clear hd1 hd0
      have hm10 : m / 10 < 10 ^ f := by have := HMF.out; rw [Nat.pow_succ] at this; omega
      have HM10 := hide hm10; clear hm10
      have HNew : Hid (Own (wr.alloc (.cells #[.int .u8 (d.toNat : Int)] 5)) w.heap.size 5 1 (.slice (some ⟨wr.heap.size, 0, none⟩) 1 1) (byteCells [d])) :=
        Own.of_blk (Blk.new wr [.int .u8 (d.toNat : Int)] 5) hz rfl (byte_fit _).len (Nat.le_refl _) (by decide) rfl rfl
      have HRd := hide ((HO.out.sl (byte_fit _).len).fut (w' := wr.alloc (.cells #[.int .u8 (d.toNat : Int)] 5)))
      have hwr0 : IntKind.u8.wrap (48 + (m : Int) % 10) = (d.toNat : Int) := by rw [HD1.out, IntKind.wrap_u8]; omega
      have hq : (m : Int) / 10 = ((m / 10 : Nat) : Int) := by omega
      have HQ := hide hq; clear hq
      rcases Nat.eq_zero_or_pos m with hm0 | hm0
      · have hl0 : l = [] := by
          cases l with
          | nil => rfl
          | cons x r => exact absurd ⟨hm0, by simp⟩ hlast
        clear hlast HNew HRd HQ HM10 HD1
        subst hm0 hl0
        have HS0 : Hid (digs f 0 [48] = R) := by
          have := HS.out
          rw [HD0.out] at this
          exact this
        have HN : Hid (Own (wr.alloc (.cells #[.int .u8 48] 5)) w.heap.size 5 1 (.slice (some ⟨wr.heap.size, 0, none⟩) 1 1) (byteCells [48])) :=
          Own.of_blk (Blk.new wr [.int .u8 48] 5) hz rfl (byte_fit _).len (Nat.le_refl _) (by decide) rfl rfl
        go_wp2_with (at_builtin; go_loud (refine wpList_append_sl rfl (.tmp 25) (.tmp 26) 47 rfl eiByte (base := w.heap.size) (xs := byteCells [48]) rfl HN.out (byte_fit _) (ys := []) rfl (by simp) SlAt.nil_ Fit.nil_ (by simp [byteCells]) (by simp; omega) (N := 1) (by simp [byteCells]) ?_; intro A2 c2 w2 hc1 hc2 hown2 hgr2 hbel2; have H2 := hide hown2; have HG := hide hbel2; clear hown2 hbel2 hgr2))
        go_roundw
        case rel =>
          refine ⟨f, 0, A2, c2, [48], by first | rfl | simp, rfl, by omega, Nat.pow_pos (by decide), by simp; omega, by simp, by simpa using H2.out, HS0.out, ⟨?_⟩⟩
          exact ((fut w (wr.alloc _))).trans HG.out
        case measure => simp [intOf, lenV]
      · clear hlast
        have hm1 : (0 : Int) < (m : Int) := by omega
        go_wp2_with (at_builtin; refine wpList_append_sl rfl (.tmp 25) (.tmp 26) 47 rfl eiByte (base := w.heap.size) (xs := byteCells [d]) rfl HNew.out (byte_fit _) (ys := byteCells l) rfl (by simp [byteCells]) HRd.out (byte_fit _) (by simp [byteCells]; omega) (by simp; omega) (N := 1 + l.length) (by simp [byteCells]) ?_; intro A2 c2 w2 hc1 hc2 hown2 hgr2 hbel2; have H2 := hide hown2; have HG := hide hbel2; clear hown2 hbel2 hgr2)
        go_roundw
        case rel =>
          refine ⟨f, m / 10, A2, c2, d :: l, by rw [← HQ.out], by rw [List.length_cons, Nat.add_comm], by omega, HM10.out, by simp; omega, by simp, ?_, HS.out, ⟨?_⟩⟩
          · have := H2.out
            rw [List.length_cons, Nat.add_comm]
            exact this
          · exact ((fut w (wr.alloc _))).trans HG.out
        case measure => simp [intOf, lenV]; omega
end Go.Proofs.YtoibfefalflooaaDoor
