/-
  The program's parser: what stands behind a stroke.
-/
import Derived.Test.YtoibfefalflooaaDoorJg
namespace Go.Proofs.YtoibfefalflooaaDoor
open Go.RowKit

/-- How what stands behind a stroke ends. -/
def EscR (g : Nat) (s : ByteArray) (r : Option (List UInt8 × Nat)) (e : Ending) (w' : World) : Prop :=
  match r with
  | some (l, j) => e = .returned (.string (ofL l)) ∧ Pr w' g s j ∧ j ≤ s.size
  | none => e = .panicked [{ v := fault 300, recovered := false }]
theorem hexN_bd {s : ByteArray} : ∀ (f i x y j : Nat), x < 16 ^ j → hexN s f i x = some y → y < 16 ^ (j + f)
  | 0, i, x, y, j, h, e => by rw [hexN] at e; injection e with e; subst e; exact h
  | f + 1, i, x, y, j, h, e => by
    cases hv : hexV (bA s i) with
    | none => rw [hexN_no hv] at e; cases e
    | some d =>
      rw [hexN_yes hv] at e
      have := hexN_bd f (i + 1) (16 * x + d) y (j + 1) (hex_bd h (hexV_lt hv)) e
      rw [show j + (f + 1) = j + 1 + f by omega]
      exact this
theorem hexP_bd {s : ByteArray} {i x : Nat} (h : hexP s i = some x) : x < 65536 := by
  have := hexN_bd 4 i 0 x 0 (by decide) h
  simpa using this
theorem hex_in {s : ByteArray} {i x : Nat} (h : hexP s i = some x) : i + 4 ≤ s.size := by
  have key : ∀ (f i x y : Nat), hexN s (f + 1) i x = some y → i + f + 1 ≤ s.size := by
    intro f
    induction f with
    | zero =>
      intro i x y e
      cases hv : hexV (bA s i) with
      | none => rw [hexN_no hv] at e; cases e
      | some d => have := bA_lt (s := s) (i := i) (by rintro q; rw [q] at hv; cases hv); omega
    | succ f ih =>
      intro i x y e
      cases hv : hexV (bA s i) with
      | none => rw [hexN_no hv] at e; cases e
      | some d =>
        rw [hexN_yes hv] at e
        have := ih _ _ _ e
        omega
  have := key 3 i 0 x h
  omega
theorem put_len {r : Int} {l : List UInt8} (h : putR r = some l) : l.length ≤ 4 := by
  unfold putR at h
  split at h
  · cases h
  · split at h
    · injection h with h; subst h; simp
    · split at h
      · injection h with h; subst h; simp
      · split at h
        · injection h with h; subst h; simp
        · injection h with h; subst h; simp
theorem uni_len {s : ByteArray} {i j : Nat} {l : List UInt8} (h : uniP s i = some (l, j)) : l.length ≤ 4 ∧ i < j := by
  unfold uniP at h
  split at h
  · cases h
  · split at h
    · split at h
      · split at h
        · cases h
        · split at h
          · cases h
          · rw [Option.map_eq_some_iff] at h
            obtain ⟨a, ha, hb⟩ := h
            injection hb with h1 h2
            subst h1 h2
            exact ⟨put_len ha, by omega⟩
      · cases h
    · rw [Option.map_eq_some_iff] at h
      obtain ⟨a, ha, hb⟩ := h
      injection hb with h1 h2
      subst h1 h2
      exact ⟨put_len ha, by omega⟩
theorem esc_len {s : ByteArray} {i j : Nat} {l : List UInt8} (h : escP s i = some (l, j)) : l.length ≤ 4 ∧ i < j := by
  unfold escP at h
  repeat' split at h
  all_goals first
    | (cases h; done)
    | (have := uni_len h; omega)
    | (injection h with h; injection h with h1 h2; subst h1 h2; exact ⟨by simp, by omega⟩)

set_option maxRecDepth 100000 in
set_option maxHeartbeats 8000000 in
theorem esc34 (g : Nat) (s : ByteArray) (i : Nat) (r : Option (List UInt8 × Nat)) (w : World) (h : Pr w g s i) (hi : i ≤ s.size) (hr : escP s i = r) (hs : s.size ≤ 65536) (hc : bA s i = 34) :
    Calls Tryd.prog 53 #[.pointer (some ⟨g, 0, none⟩)] w fun e w' => EscR g s r e w' ∧ Mv g w w' := by
  have HH := hide h
  have hlb := h.lt
  clear h
  have N0 := fun w' (hp : Pr w' g s i) => jnext_any g s i w' hp hi hs
  have hin : i < s.size := bA_lt (by omega)
  rw [hc] at N0
  have N0 := hide N0
  have HR : Hid (r = some ([34], i + 1)) := by show _ = _; rw [← hr, escP, hc]; rfl
  clear hr hc
  go_enter Tryd.func53, Tryd.ntmps53
  go_upto_region 3 with (go_at_call 32; (with_reducible refine (N0.out _ HH.out).mono ?_); rintro e w2 ⟨rfl, hs2⟩; have b2 := HH.out.fut (w' := w2); obtain ⟨q0, q1⟩ := At.z2 b2.at0; have lq := b2.lt; have fq := b2.free; have HB2 := hide b2; clear b2)
  have HB : Hid (Pr (w2.setCell ⟨g, 1, none⟩ (.int .i64 ((i : Int) + 1))) g s (i + 1)) := Pr.put HB2.out (by omega)
  have HM : Hid (Mv g w (w2.setCell ⟨g, 1, none⟩ (.int .i64 ((i : Int) + 1)))) := (Mv.of_step hs2).put _
  obtain ⟨X, hX⟩ : ∃ x : World, x = w2.setCell ⟨g, 1, none⟩ (.int .i64 ((i : Int) + 1)) := ⟨_, rfl⟩
  rw [← hX] at HB HM
  rw [← hX]
  clear hX q0 q1 lq fq HB2
  have hsl := SlAt.new (w := X) (size := 1) (l := byteCells [34]) (cs := [.int .u8 34]) (t := 5) rfl (byte_fit _).len
  have hcv := bytes_conv (c := 1) (n := 1) hsl rfl (by decide)
  clear hsl
  go_wp2_with fail
  go_ret
  exact ⟨by rw [HR.out]; exact ⟨rfl, HB.out.fut, by omega⟩, HM.out.fut⟩

set_option maxRecDepth 100000 in
set_option maxHeartbeats 8000000 in
theorem esc92 (g : Nat) (s : ByteArray) (i : Nat) (r : Option (List UInt8 × Nat)) (w : World) (h : Pr w g s i) (hi : i ≤ s.size) (hr : escP s i = r) (hs : s.size ≤ 65536) (hc : bA s i = 92) :
    Calls Tryd.prog 53 #[.pointer (some ⟨g, 0, none⟩)] w fun e w' => EscR g s r e w' ∧ Mv g w w' := by
  have HH := hide h
  have hlb := h.lt
  clear h
  have N0 := fun w' (hp : Pr w' g s i) => jnext_any g s i w' hp hi hs
  have hin : i < s.size := bA_lt (by omega)
  rw [hc] at N0
  have N0 := hide N0
  have HR : Hid (r = some ([92], i + 1)) := by show _ = _; rw [← hr, escP, hc]; rfl
  clear hr hc
  go_enter Tryd.func53, Tryd.ntmps53
  go_upto_region 3 with (go_at_call 32; (with_reducible refine (N0.out _ HH.out).mono ?_); rintro e w2 ⟨rfl, hs2⟩; have b2 := HH.out.fut (w' := w2); obtain ⟨q0, q1⟩ := At.z2 b2.at0; have lq := b2.lt; have fq := b2.free; have HB2 := hide b2; clear b2)
  have HB : Hid (Pr (w2.setCell ⟨g, 1, none⟩ (.int .i64 ((i : Int) + 1))) g s (i + 1)) := Pr.put HB2.out (by omega)
  have HM : Hid (Mv g w (w2.setCell ⟨g, 1, none⟩ (.int .i64 ((i : Int) + 1)))) := (Mv.of_step hs2).put _
  obtain ⟨X, hX⟩ : ∃ x : World, x = w2.setCell ⟨g, 1, none⟩ (.int .i64 ((i : Int) + 1)) := ⟨_, rfl⟩
  rw [← hX] at HB HM
  rw [← hX]
  clear hX q0 q1 lq fq HB2
  have hsl := SlAt.new (w := X) (size := 1) (l := byteCells [92]) (cs := [.int .u8 92]) (t := 5) rfl (byte_fit _).len
  have hcv := bytes_conv (c := 1) (n := 1) hsl rfl (by decide)
  clear hsl
  go_wp2_with fail
  go_ret
  exact ⟨by rw [HR.out]; exact ⟨rfl, HB.out.fut, by omega⟩, HM.out.fut⟩

set_option maxRecDepth 100000 in
set_option maxHeartbeats 8000000 in
theorem esc47 (g : Nat) (s : ByteArray) (i : Nat) (r : Option (List UInt8 × Nat)) (w : World) (h : Pr w g s i) (hi : i ≤ s.size) (hr : escP s i = r) (hs : s.size ≤ 65536) (hc : bA s i = 47) :
    Calls Tryd.prog 53 #[.pointer (some ⟨g, 0, none⟩)] w fun e w' => EscR g s r e w' ∧ Mv g w w' := by
  have HH := hide h
  have hlb := h.lt
  clear h
  have N0 := fun w' (hp : Pr w' g s i) => jnext_any g s i w' hp hi hs
  have hin : i < s.size := bA_lt (by omega)
  rw [hc] at N0
  have N0 := hide N0
  have HR : Hid (r = some ([47], i + 1)) := by show _ = _; rw [← hr, escP, hc]; rfl
  clear hr hc
  go_enter Tryd.func53, Tryd.ntmps53
  go_upto_region 3 with (go_at_call 32; (with_reducible refine (N0.out _ HH.out).mono ?_); rintro e w2 ⟨rfl, hs2⟩; have b2 := HH.out.fut (w' := w2); obtain ⟨q0, q1⟩ := At.z2 b2.at0; have lq := b2.lt; have fq := b2.free; have HB2 := hide b2; clear b2)
  have HB : Hid (Pr (w2.setCell ⟨g, 1, none⟩ (.int .i64 ((i : Int) + 1))) g s (i + 1)) := Pr.put HB2.out (by omega)
  have HM : Hid (Mv g w (w2.setCell ⟨g, 1, none⟩ (.int .i64 ((i : Int) + 1)))) := (Mv.of_step hs2).put _
  obtain ⟨X, hX⟩ : ∃ x : World, x = w2.setCell ⟨g, 1, none⟩ (.int .i64 ((i : Int) + 1)) := ⟨_, rfl⟩
  rw [← hX] at HB HM
  rw [← hX]
  clear hX q0 q1 lq fq HB2
  have hsl := SlAt.new (w := X) (size := 1) (l := byteCells [47]) (cs := [.int .u8 47]) (t := 5) rfl (byte_fit _).len
  have hcv := bytes_conv (c := 1) (n := 1) hsl rfl (by decide)
  clear hsl
  go_wp2_with fail
  go_ret
  exact ⟨by rw [HR.out]; exact ⟨rfl, HB.out.fut, by omega⟩, HM.out.fut⟩

set_option maxRecDepth 100000 in
set_option maxHeartbeats 8000000 in
theorem esc98 (g : Nat) (s : ByteArray) (i : Nat) (r : Option (List UInt8 × Nat)) (w : World) (h : Pr w g s i) (hi : i ≤ s.size) (hr : escP s i = r) (hs : s.size ≤ 65536) (hc : bA s i = 98) :
    Calls Tryd.prog 53 #[.pointer (some ⟨g, 0, none⟩)] w fun e w' => EscR g s r e w' ∧ Mv g w w' := by
  have HH := hide h
  have hlb := h.lt
  clear h
  have N0 := fun w' (hp : Pr w' g s i) => jnext_any g s i w' hp hi hs
  have hin : i < s.size := bA_lt (by omega)
  rw [hc] at N0
  have N0 := hide N0
  have HR : Hid (r = some ([8], i + 1)) := by show _ = _; rw [← hr, escP, hc]; rfl
  clear hr hc
  go_enter Tryd.func53, Tryd.ntmps53
  go_wp2_with (go_at_call 32; (with_reducible refine (N0.out _ HH.out).mono ?_); rintro e w2 ⟨rfl, hs2⟩; have b2 := HH.out.fut (w' := w2); obtain ⟨q0, q1⟩ := At.z2 b2.at0; have lq := b2.lt; have fq := b2.free; have HB2 := hide b2; clear b2)
  go_ret
  exact ⟨by rw [HR.out]; exact ⟨rfl, Pr.put HB2.out (by omega), by omega⟩, (Mv.of_step hs2).put _⟩

set_option maxRecDepth 100000 in
set_option maxHeartbeats 8000000 in
theorem esc102 (g : Nat) (s : ByteArray) (i : Nat) (r : Option (List UInt8 × Nat)) (w : World) (h : Pr w g s i) (hi : i ≤ s.size) (hr : escP s i = r) (hs : s.size ≤ 65536) (hc : bA s i = 102) :
    Calls Tryd.prog 53 #[.pointer (some ⟨g, 0, none⟩)] w fun e w' => EscR g s r e w' ∧ Mv g w w' := by
  have HH := hide h
  have hlb := h.lt
  clear h
  have N0 := fun w' (hp : Pr w' g s i) => jnext_any g s i w' hp hi hs
  have hin : i < s.size := bA_lt (by omega)
  rw [hc] at N0
  have N0 := hide N0
  have HR : Hid (r = some ([12], i + 1)) := by show _ = _; rw [← hr, escP, hc]; rfl
  clear hr hc
  go_enter Tryd.func53, Tryd.ntmps53
  go_wp2_with (go_at_call 32; (with_reducible refine (N0.out _ HH.out).mono ?_); rintro e w2 ⟨rfl, hs2⟩; have b2 := HH.out.fut (w' := w2); obtain ⟨q0, q1⟩ := At.z2 b2.at0; have lq := b2.lt; have fq := b2.free; have HB2 := hide b2; clear b2)
  go_ret
  exact ⟨by rw [HR.out]; exact ⟨rfl, Pr.put HB2.out (by omega), by omega⟩, (Mv.of_step hs2).put _⟩

set_option maxRecDepth 100000 in
set_option maxHeartbeats 8000000 in
theorem esc110 (g : Nat) (s : ByteArray) (i : Nat) (r : Option (List UInt8 × Nat)) (w : World) (h : Pr w g s i) (hi : i ≤ s.size) (hr : escP s i = r) (hs : s.size ≤ 65536) (hc : bA s i = 110) :
    Calls Tryd.prog 53 #[.pointer (some ⟨g, 0, none⟩)] w fun e w' => EscR g s r e w' ∧ Mv g w w' := by
  have HH := hide h
  have hlb := h.lt
  clear h
  have N0 := fun w' (hp : Pr w' g s i) => jnext_any g s i w' hp hi hs
  have hin : i < s.size := bA_lt (by omega)
  rw [hc] at N0
  have N0 := hide N0
  have HR : Hid (r = some ([10], i + 1)) := by show _ = _; rw [← hr, escP, hc]; rfl
  clear hr hc
  go_enter Tryd.func53, Tryd.ntmps53
  go_wp2_with (go_at_call 32; (with_reducible refine (N0.out _ HH.out).mono ?_); rintro e w2 ⟨rfl, hs2⟩; have b2 := HH.out.fut (w' := w2); obtain ⟨q0, q1⟩ := At.z2 b2.at0; have lq := b2.lt; have fq := b2.free; have HB2 := hide b2; clear b2)
  go_ret
  exact ⟨by rw [HR.out]; exact ⟨rfl, Pr.put HB2.out (by omega), by omega⟩, (Mv.of_step hs2).put _⟩

set_option maxRecDepth 100000 in
set_option maxHeartbeats 8000000 in
theorem esc114 (g : Nat) (s : ByteArray) (i : Nat) (r : Option (List UInt8 × Nat)) (w : World) (h : Pr w g s i) (hi : i ≤ s.size) (hr : escP s i = r) (hs : s.size ≤ 65536) (hc : bA s i = 114) :
    Calls Tryd.prog 53 #[.pointer (some ⟨g, 0, none⟩)] w fun e w' => EscR g s r e w' ∧ Mv g w w' := by
  have HH := hide h
  have hlb := h.lt
  clear h
  have N0 := fun w' (hp : Pr w' g s i) => jnext_any g s i w' hp hi hs
  have hin : i < s.size := bA_lt (by omega)
  rw [hc] at N0
  have N0 := hide N0
  have HR : Hid (r = some ([13], i + 1)) := by show _ = _; rw [← hr, escP, hc]; rfl
  clear hr hc
  go_enter Tryd.func53, Tryd.ntmps53
  go_wp2_with (go_at_call 32; (with_reducible refine (N0.out _ HH.out).mono ?_); rintro e w2 ⟨rfl, hs2⟩; have b2 := HH.out.fut (w' := w2); obtain ⟨q0, q1⟩ := At.z2 b2.at0; have lq := b2.lt; have fq := b2.free; have HB2 := hide b2; clear b2)
  go_ret
  exact ⟨by rw [HR.out]; exact ⟨rfl, Pr.put HB2.out (by omega), by omega⟩, (Mv.of_step hs2).put _⟩

set_option maxRecDepth 100000 in
set_option maxHeartbeats 8000000 in
theorem esc116 (g : Nat) (s : ByteArray) (i : Nat) (r : Option (List UInt8 × Nat)) (w : World) (h : Pr w g s i) (hi : i ≤ s.size) (hr : escP s i = r) (hs : s.size ≤ 65536) (hc : bA s i = 116) :
    Calls Tryd.prog 53 #[.pointer (some ⟨g, 0, none⟩)] w fun e w' => EscR g s r e w' ∧ Mv g w w' := by
  have HH := hide h
  have hlb := h.lt
  clear h
  have N0 := fun w' (hp : Pr w' g s i) => jnext_any g s i w' hp hi hs
  have hin : i < s.size := bA_lt (by omega)
  rw [hc] at N0
  have N0 := hide N0
  have HR : Hid (r = some ([9], i + 1)) := by show _ = _; rw [← hr, escP, hc]; rfl
  clear hr hc
  go_enter Tryd.func53, Tryd.ntmps53
  go_wp2_with (go_at_call 32; (with_reducible refine (N0.out _ HH.out).mono ?_); rintro e w2 ⟨rfl, hs2⟩; have b2 := HH.out.fut (w' := w2); obtain ⟨q0, q1⟩ := At.z2 b2.at0; have lq := b2.lt; have fq := b2.free; have HB2 := hide b2; clear b2)
  go_ret
  exact ⟨by rw [HR.out]; exact ⟨rfl, Pr.put HB2.out (by omega), by omega⟩, (Mv.of_step hs2).put _⟩

set_option maxRecDepth 100000 in
set_option maxHeartbeats 8000000 in
theorem escX (g : Nat) (s : ByteArray) (i : Nat) (r : Option (List UInt8 × Nat)) (w : World) (h : Pr w g s i) (hi : i ≤ s.size) (hr : escP s i = r) (hs : s.size ≤ 65536) (hc : bA s i ≠ 34 ∧ bA s i ≠ 92 ∧ bA s i ≠ 47 ∧ bA s i ≠ 98 ∧ bA s i ≠ 102 ∧ bA s i ≠ 110 ∧ bA s i ≠ 114 ∧ bA s i ≠ 116 ∧ bA s i ≠ 117) :
    Calls Tryd.prog 53 #[.pointer (some ⟨g, 0, none⟩)] w fun e w' => EscR g s r e w' ∧ Mv g w w' := by
  have HH := hide h
  have hlb := h.lt
  clear h
  have N0 := fun w' (hp : Pr w' g s i) => jnext_any g s i w' hp hi hs
  obtain ⟨n34, n92, n47, n98, n102, n110, n114, n116, n117⟩ := hc
  have HR : Hid (r = none) := by show _ = _; rw [← hr, escP, if_neg (by omega), if_neg n98, if_neg n102, if_neg n110, if_neg n114, if_neg n116, if_neg n117]
  obtain ⟨C, hC⟩ : ∃ C : Int, (bA s i : Int) = C := ⟨_, rfl⟩
  have e34 : (C == 34) = false := beq_eq_false_iff_ne.2 (by omega)
  have e92 : (C == 92) = false := beq_eq_false_iff_ne.2 (by omega)
  have e47 : (C == 47) = false := beq_eq_false_iff_ne.2 (by omega)
  have e98 : (C == 98) = false := beq_eq_false_iff_ne.2 (by omega)
  have e102 : (C == 102) = false := beq_eq_false_iff_ne.2 (by omega)
  have e110 : (C == 110) = false := beq_eq_false_iff_ne.2 (by omega)
  have e114 : (C == 114) = false := beq_eq_false_iff_ne.2 (by omega)
  have e116 : (C == 116) = false := beq_eq_false_iff_ne.2 (by omega)
  have e117 : (C == 117) = false := beq_eq_false_iff_ne.2 (by omega)
  rw [hC] at N0
  have N0 := hide N0
  clear hr hC n34 n92 n47 n98 n102 n110 n114 n116 n117
  go_enter Tryd.func53, Tryd.ntmps53
  go_wp2_with (first | (go_at_call 32; (with_reducible refine (N0.out _ HH.out).mono ?_); rintro e w2 ⟨rfl, hs2⟩; have b2 := HH.out.fut (w' := w2); obtain ⟨q0, q1⟩ := At.z2 b2.at0; have lq := b2.lt; have fq := b2.free; have HB2 := hide b2; clear b2) | (go_at_call 23; (with_reducible refine (bad_any _).mono ?_); rintro e w9 ⟨rfl, rfl⟩))
  exact ⟨rfl, by rw [HR.out]; rfl, (Mv.of_step hs2).put _⟩

set_option maxRecDepth 100000 in
set_option maxHeartbeats 8000000 in
theorem esc117 (g : Nat) (s : ByteArray) (i : Nat) (r : Option (List UInt8 × Nat)) (w : World) (h : Pr w g s i) (hi : i ≤ s.size) (hr : escP s i = r) (hs : s.size ≤ 65536) (hc : bA s i = 117) :
    Calls Tryd.prog 53 #[.pointer (some ⟨g, 0, none⟩)] w fun e w' => EscR g s r e w' ∧ Mv g w w' := by
  have HH := hide h
  have hlb := h.lt
  clear h
  have N0 := fun w' (hp : Pr w' g s i) => jnext_any g s i w' hp hi hs
  have hin : i < s.size := bA_lt (by omega)
  rw [hc] at N0
  have N0 := hide N0
  have HR : Hid (r = uniP s (i + 1)) := by show _ = _; rw [← hr, escP, hc]; rfl
  clear hr hc
  have hi1 : i + 1 ≤ s.size := by omega
  cases ha : hexP s (i + 1) with
  | none =>
    have HRN : Hid (r = none) := by show _ = _; rw [HR.out, uniP, ha]
    have HXA : Hid (∀ w', Pr w' g s (i + 1) → Calls Tryd.prog 62 #[.pointer (some ⟨g, 0, none⟩)] w' fun e w'' => e = .panicked [{ v := fault 300, recovered := false }] ∧ Mv g w' w'') := fun w' hp => jhex_any g s (i + 1) none w' hp hi1 ha hs
    clear ha HR
    go_enter Tryd.func53, Tryd.ntmps53
    go_upto_region 19 with (go_at_call 32; (with_reducible refine (N0.out _ HH.out).mono ?_); rintro e w2 ⟨rfl, hs2⟩; have b2 := HH.out.fut (w' := w2); obtain ⟨q0, q1⟩ := At.z2 b2.at0; have lq := b2.lt; have fq := b2.free; have HB2 := hide b2; clear b2)
    have HB : Hid (Pr (w2.setCell ⟨g, 1, none⟩ (.int .i64 ((i : Int) + 1))) g s (i + 1)) := Pr.put HB2.out (by omega)
    have HM : Hid (Mv g w (w2.setCell ⟨g, 1, none⟩ (.int .i64 ((i : Int) + 1)))) := (Mv.of_step hs2).put _
    obtain ⟨X, hX⟩ : ∃ x : World, x = w2.setCell ⟨g, 1, none⟩ (.int .i64 ((i : Int) + 1)) := ⟨_, rfl⟩
    rw [← hX] at HB HM
    rw [← hX]
    clear hX q0 q1 lq fq HB2
    go_wp2_with (go_at_call 62; (with_reducible refine (HXA.out _ HB.out).mono ?_); rintro e w3 ⟨rfl, hm3⟩; have HM3 : Hid (Mv g w w3) := grown_trans HM.out hm3; clear hm3)
    exact ⟨rfl, by rw [HRN.out]; rfl, HM3.out⟩
  | some x =>
    have hx := hexP_bd ha
    obtain ⟨X9, hX9⟩ : ∃ X9 : Int, (x : Int) = X9 := ⟨_, rfl⟩
    have HXA : Hid (∀ w', Pr w' g s (i + 1) → Calls Tryd.prog 62 #[.pointer (some ⟨g, 0, none⟩)] w' fun e w'' => (e = .returned (.int .i64 X9) ∧ Pr w'' g s (i + 1 + 4) ∧ i + 1 + 4 ≤ s.size) ∧ Mv g w' w'') := fun w' hp => by rw [← hX9]; exact jhex_any g s (i + 1) (some x) w' hp hi1 ha hs
    have HA := hide ha
    clear ha
    have hi5 : i + 1 + 4 ≤ s.size := by
      by_cases q : i + 1 + 4 ≤ s.size
      · exact q
      · exact absurd HA.out (by intro h; exact q (hex_in h))
    by_cases hsur : 55296 ≤ x ∧ x < 56320
    · have k1 : X9 ≥ 55296 := by omega
      have k2 : X9 < 56320 := by omega
      cases hw : wordB s (i + 1 + 4) [92, 117] with
      | false =>
        have HRN : Hid (r = none) := by show _ = _; rw [HR.out, uniP, HA.out]; simp only []; rw [if_pos hsur, hw]; rfl
        have HW : Hid (∀ w', Pr w' g s (i + 1 + 4) → Calls Tryd.prog 33 #[.pointer (some ⟨g, 0, none⟩), .string ⟨#[92, 117]⟩] w' fun e w'' => e = .panicked [{ v := fault 300, recovered := false }] ∧ Mv g w' w'') := fun w' hp => jword_any g s ⟨#[92, 117]⟩ (i + 1 + 4) false w' hp hi5 hw hs (by decide)
        clear hw hsur hX9 hx
        go_enter Tryd.func53, Tryd.ntmps53
        go_upto_region 19 with (go_at_call 32; (with_reducible refine (N0.out _ HH.out).mono ?_); rintro e w2 ⟨rfl, hs2⟩; have b2 := HH.out.fut (w' := w2); obtain ⟨q0, q1⟩ := At.z2 b2.at0; have lq := b2.lt; have fq := b2.free; have HB2 := hide b2; clear b2)
        have HB : Hid (Pr (w2.setCell ⟨g, 1, none⟩ (.int .i64 ((i : Int) + 1))) g s (i + 1)) := Pr.put HB2.out (by omega)
        have HM : Hid (Mv g w (w2.setCell ⟨g, 1, none⟩ (.int .i64 ((i : Int) + 1)))) := (Mv.of_step hs2).put _
        obtain ⟨X, hX⟩ : ∃ x : World, x = w2.setCell ⟨g, 1, none⟩ (.int .i64 ((i : Int) + 1)) := ⟨_, rfl⟩
        rw [← hX] at HB HM
        rw [← hX]
        clear hX q0 q1 lq fq HB2
        go_wp2_with (first | (go_at_call 62; (with_reducible refine (HXA.out _ HB.out).mono ?_); rintro e w3 ⟨⟨rfl, hb3, hl3⟩, hm3⟩; have HB3 := hide hb3; have HM3 : Hid (Mv g w w3) := grown_trans HM.out hm3; clear hb3 hm3) | (go_at_call 33; (with_reducible refine (HW.out _ HB3.out).mono ?_); rintro e w4 ⟨rfl, hm4⟩; have HM4 : Hid (Mv g w w4) := grown_trans HM3.out hm4; clear hm4))
        exact ⟨rfl, by rw [HRN.out]; rfl, HM4.out⟩
      | true =>
        have hi7 : i + 1 + 6 ≤ s.size := by have := word_len hi5 hw; simpa using this
        have HW : Hid (∀ w', Pr w' g s (i + 1 + 4) → Calls Tryd.prog 33 #[.pointer (some ⟨g, 0, none⟩), .string ⟨#[92, 117]⟩] w' fun e w'' => (e = .returned (.tuple #[]) ∧ Pr w'' g s (i + 1 + 6)) ∧ Mv g w' w'') := fun w' hp => jword_any g s ⟨#[92, 117]⟩ (i + 1 + 4) true w' hp hi5 hw hs (by decide)
        have HWW := hide hw
        clear hw
        cases hb : hexP s (i + 1 + 6) with
        | none =>
          have HRN : Hid (r = none) := by show _ = _; rw [HR.out, uniP, HA.out]; simp only []; rw [if_pos hsur, if_pos HWW.out, hb]
          have HXB : Hid (∀ w', Pr w' g s (i + 1 + 6) → Calls Tryd.prog 62 #[.pointer (some ⟨g, 0, none⟩)] w' fun e w'' => e = .panicked [{ v := fault 300, recovered := false }] ∧ Mv g w' w'') := fun w' hp => jhex_any g s (i + 1 + 6) none w' hp hi7 hb hs
          clear hb hsur hX9 hx
          go_enter Tryd.func53, Tryd.ntmps53
          go_upto_region 19 with (go_at_call 32; (with_reducible refine (N0.out _ HH.out).mono ?_); rintro e w2 ⟨rfl, hs2⟩; have b2 := HH.out.fut (w' := w2); obtain ⟨q0, q1⟩ := At.z2 b2.at0; have lq := b2.lt; have fq := b2.free; have HB2 := hide b2; clear b2)
          have HB : Hid (Pr (w2.setCell ⟨g, 1, none⟩ (.int .i64 ((i : Int) + 1))) g s (i + 1)) := Pr.put HB2.out (by omega)
          have HM : Hid (Mv g w (w2.setCell ⟨g, 1, none⟩ (.int .i64 ((i : Int) + 1)))) := (Mv.of_step hs2).put _
          obtain ⟨X, hX⟩ : ∃ x : World, x = w2.setCell ⟨g, 1, none⟩ (.int .i64 ((i : Int) + 1)) := ⟨_, rfl⟩
          rw [← hX] at HB HM
          rw [← hX]
          clear hX q0 q1 lq fq HB2
          go_wp2_with (first | (go_at_call 62; (with_reducible refine (HXA.out _ HB.out).mono ?_); rintro e w3 ⟨⟨rfl, hb3, hl3⟩, hm3⟩; have HB3 := hide hb3; have HM3 : Hid (Mv g w w3) := grown_trans HM.out hm3; clear hb3 hm3) | (go_at_call 33; (with_reducible refine (HW.out _ HB3.out).mono ?_); rintro e w4 ⟨⟨rfl, hb4⟩, hm4⟩; have HB4 := hide hb4; have HM4 : Hid (Mv g w w4) := grown_trans HM3.out hm4; clear hb4 hm4) | (go_at_call 62; (with_reducible refine (HXB.out _ HB4.out).mono ?_); rintro e w5 ⟨rfl, hm5⟩; have HM5 : Hid (Mv g w w5) := grown_trans HM4.out hm5; clear hm5))
          exact ⟨rfl, by rw [HRN.out]; rfl, HM5.out⟩
        | some low =>
          have hlow := hexP_bd hb
          obtain ⟨L9, hL9⟩ : ∃ L9 : Int, (low : Int) = L9 := ⟨_, rfl⟩
          have HXB : Hid (∀ w', Pr w' g s (i + 1 + 6) → Calls Tryd.prog 62 #[.pointer (some ⟨g, 0, none⟩)] w' fun e w'' => (e = .returned (.int .i64 L9) ∧ Pr w'' g s (i + 1 + 6 + 4) ∧ i + 1 + 6 + 4 ≤ s.size) ∧ Mv g w' w'') := fun w' hp => by rw [← hL9]; exact jhex_any g s (i + 1 + 6) (some low) w' hp hi7 hb hs
          have HBB := hide hb
          clear hb
          by_cases hl : low < 56320 ∨ 57343 < low
          · have HRN : Hid (r = none) := by show _ = _; rw [HR.out, uniP, HA.out]; simp only []; rw [if_pos hsur, if_pos HWW.out, HBB.out]; simp only []; rw [if_pos hl]
            have k3 : L9 < 56320 ∨ (¬ L9 < 56320 ∧ L9 > 57343) := by omega
            clear hl hsur hX9 hx hL9 hlow
            rcases k3 with k3 | ⟨k3, k4⟩
            all_goals
              go_enter Tryd.func53, Tryd.ntmps53
              go_upto_region 19 with (go_at_call 32; (with_reducible refine (N0.out _ HH.out).mono ?_); rintro e w2 ⟨rfl, hs2⟩; have b2 := HH.out.fut (w' := w2); obtain ⟨q0, q1⟩ := At.z2 b2.at0; have lq := b2.lt; have fq := b2.free; have HB2 := hide b2; clear b2)
              have HB : Hid (Pr (w2.setCell ⟨g, 1, none⟩ (.int .i64 ((i : Int) + 1))) g s (i + 1)) := Pr.put HB2.out (by omega)
              have HM : Hid (Mv g w (w2.setCell ⟨g, 1, none⟩ (.int .i64 ((i : Int) + 1)))) := (Mv.of_step hs2).put _
              obtain ⟨X, hX⟩ : ∃ x : World, x = w2.setCell ⟨g, 1, none⟩ (.int .i64 ((i : Int) + 1)) := ⟨_, rfl⟩
              rw [← hX] at HB HM
              rw [← hX]
              clear hX q0 q1 lq fq HB2
              go_wp2_with (first | (go_at_call 62; (with_reducible refine (HXA.out _ HB.out).mono ?_); rintro e w3 ⟨⟨rfl, hb3, hl3⟩, hm3⟩; have HB3 := hide hb3; have HM3 : Hid (Mv g w w3) := grown_trans HM.out hm3; clear hb3 hm3) | (go_at_call 33; (with_reducible refine (HW.out _ HB3.out).mono ?_); rintro e w4 ⟨⟨rfl, hb4⟩, hm4⟩; have HB4 := hide hb4; have HM4 : Hid (Mv g w w4) := grown_trans HM3.out hm4; clear hb4 hm4) | (go_at_call 62; (with_reducible refine (HXB.out _ HB4.out).mono ?_); rintro e w5 ⟨⟨rfl, hb5, hl5⟩, hm5⟩; have HB5 := hide hb5; have HM5 : Hid (Mv g w w5) := grown_trans HM4.out hm5; clear hb5 hm5) | (go_at_call 23; (with_reducible refine (bad_any _).mono ?_); rintro e w9 ⟨rfl, rfl⟩))
              exact ⟨rfl, by rw [HRN.out]; rfl, HM5.out.fut⟩
          · have k3 : ¬ L9 < 56320 := by omega
            have k4 : ¬ L9 > 57343 := by omega
            have HRR : Hid (r = (putR (65536 + (X9 - 55296) * 1024 + L9 - 56320)).map fun l => (l, i + 1 + 10)) := by show _ = _; rw [HR.out, uniP, HA.out]; simp only []; rw [if_pos hsur, if_pos HWW.out, HBB.out]; simp only []; rw [if_neg hl, hX9, hL9]
            cases hp : putR (65536 + (X9 - 55296) * 1024 + L9 - 56320) with
            | none =>
              have HRN : Hid (r = none) := by show _ = _; rw [HRR.out, hp]; rfl
              have PT : Hid (∀ (R : Int) (w' : World), R = 65536 + (X9 - 55296) * 1024 + L9 - 56320 → Calls Tryd.prog 63 #[.int .i64 R] w' fun e w'' => e = .returned (.tuple #[.string ⟨#[]⟩, .int .i64 200]) ∧ Step w' w'') := fun R w' hR => by have := put_any R w'; rw [hR, hp] at this; rw [hR]; exact this
              clear hp hl hsur HRR HR hX9 hx hL9 hlow
              go_enter Tryd.func53, Tryd.ntmps53
              go_upto_region 19 with (go_at_call 32; (with_reducible refine (N0.out _ HH.out).mono ?_); rintro e w2 ⟨rfl, hs2⟩; have b2 := HH.out.fut (w' := w2); obtain ⟨q0, q1⟩ := At.z2 b2.at0; have lq := b2.lt; have fq := b2.free; have HB2 := hide b2; clear b2)
              have HB : Hid (Pr (w2.setCell ⟨g, 1, none⟩ (.int .i64 ((i : Int) + 1))) g s (i + 1)) := Pr.put HB2.out (by omega)
              have HM : Hid (Mv g w (w2.setCell ⟨g, 1, none⟩ (.int .i64 ((i : Int) + 1)))) := (Mv.of_step hs2).put _
              obtain ⟨X, hX⟩ : ∃ x : World, x = w2.setCell ⟨g, 1, none⟩ (.int .i64 ((i : Int) + 1)) := ⟨_, rfl⟩
              rw [← hX] at HB HM
              rw [← hX]
              clear hX q0 q1 lq fq HB2
              go_wp2_with (first | (go_at_call 62; (with_reducible refine (HXA.out _ HB.out).mono ?_); rintro e w3 ⟨⟨rfl, hb3, hl3⟩, hm3⟩; have HB3 := hide hb3; have HM3 : Hid (Mv g w w3) := grown_trans HM.out hm3; clear hb3 hm3) | (go_at_call 33; (with_reducible refine (HW.out _ HB3.out).mono ?_); rintro e w4 ⟨⟨rfl, hb4⟩, hm4⟩; have HB4 := hide hb4; have HM4 : Hid (Mv g w w4) := grown_trans HM3.out hm4; clear hb4 hm4) | (go_at_call 62; (with_reducible refine (HXB.out _ HB4.out).mono ?_); rintro e w5 ⟨⟨rfl, hb5, hl5⟩, hm5⟩; have HB5 := hide hb5; have HM5 : Hid (Mv g w w5) := grown_trans HM4.out hm5; clear hb5 hm5) | (go_at_call 63; (with_reducible refine (PT.out _ _ ?hq).mono ?_); (case hq => omega); rintro e w6 ⟨rfl, hs6⟩) | (go_at_call 23; (with_reducible refine (bad_any _).mono ?_); rintro e w9 ⟨rfl, rfl⟩))
              exact ⟨rfl, by rw [HRN.out]; rfl, HM5.out.fut⟩
            | some l =>
              have HRN : Hid (r = some (l, i + 1 + 10)) := by show _ = _; rw [HRR.out, hp]; rfl
              have PT : Hid (∀ (R : Int) (w' : World), R = 65536 + (X9 - 55296) * 1024 + L9 - 56320 → Calls Tryd.prog 63 #[.int .i64 R] w' fun e w'' => e = .returned (.tuple #[.string (ofL l), .int .i64 0]) ∧ Step w' w'') := fun R w' hR => by have := put_any R w'; rw [hR, hp] at this; rw [hR]; exact this
              clear hp hl hsur HRR HR hX9 hx hL9 hlow
              go_enter Tryd.func53, Tryd.ntmps53
              go_upto_region 19 with (go_at_call 32; (with_reducible refine (N0.out _ HH.out).mono ?_); rintro e w2 ⟨rfl, hs2⟩; have b2 := HH.out.fut (w' := w2); obtain ⟨q0, q1⟩ := At.z2 b2.at0; have lq := b2.lt; have fq := b2.free; have HB2 := hide b2; clear b2)
              have HB : Hid (Pr (w2.setCell ⟨g, 1, none⟩ (.int .i64 ((i : Int) + 1))) g s (i + 1)) := Pr.put HB2.out (by omega)
              have HM : Hid (Mv g w (w2.setCell ⟨g, 1, none⟩ (.int .i64 ((i : Int) + 1)))) := (Mv.of_step hs2).put _
              obtain ⟨X, hX⟩ : ∃ x : World, x = w2.setCell ⟨g, 1, none⟩ (.int .i64 ((i : Int) + 1)) := ⟨_, rfl⟩
              rw [← hX] at HB HM
              rw [← hX]
              clear hX q0 q1 lq fq HB2
              go_wp2_with (first | (go_at_call 62; (with_reducible refine (HXA.out _ HB.out).mono ?_); rintro e w3 ⟨⟨rfl, hb3, hl3⟩, hm3⟩; have HB3 := hide hb3; have HM3 : Hid (Mv g w w3) := grown_trans HM.out hm3; clear hb3 hm3) | (go_at_call 33; (with_reducible refine (HW.out _ HB3.out).mono ?_); rintro e w4 ⟨⟨rfl, hb4⟩, hm4⟩; have HB4 := hide hb4; have HM4 : Hid (Mv g w w4) := grown_trans HM3.out hm4; clear hb4 hm4) | (go_at_call 62; (with_reducible refine (HXB.out _ HB4.out).mono ?_); rintro e w5 ⟨⟨rfl, hb5, hl5⟩, hm5⟩; have HB5 := hide hb5; have HM5 : Hid (Mv g w w5) := grown_trans HM4.out hm5; clear hb5 hm5) | (go_at_call 63; (with_reducible refine (PT.out _ _ ?hq).mono ?_); (case hq => omega); rintro e w6 ⟨rfl, hs6⟩) | (go_at_call 23; (with_reducible refine (bad_any _).mono ?_); rintro e w9 ⟨rfl, rfl⟩))
              go_ret
              exact ⟨by rw [HRN.out]; exact ⟨rfl, HB5.out.fut, by omega⟩, HM5.out.fut⟩
    · have k1 : ¬ X9 ≥ 55296 ∨ (X9 ≥ 55296 ∧ ¬ X9 < 56320) := by omega
      have HRR : Hid (r = (putR X9).map fun l => (l, i + 1 + 4)) := by show _ = _; rw [HR.out, uniP, HA.out]; simp only []; rw [if_neg hsur, hX9]
      cases hp : putR X9 with
      | none =>
        have HRN : Hid (r = none) := by show _ = _; rw [HRR.out, hp]; rfl
        have PT : Hid (∀ (w' : World), Calls Tryd.prog 63 #[.int .i64 X9] w' fun e w'' => e = .returned (.tuple #[.string ⟨#[]⟩, .int .i64 200]) ∧ Step w' w'') := fun w' => by have := put_any X9 w'; rw [hp] at this; exact this
        clear hp hsur HRR HR hX9 hx
        rcases k1 with k1 | ⟨k1, k2⟩
        all_goals
          go_enter Tryd.func53, Tryd.ntmps53
          go_upto_region 19 with (go_at_call 32; (with_reducible refine (N0.out _ HH.out).mono ?_); rintro e w2 ⟨rfl, hs2⟩; have b2 := HH.out.fut (w' := w2); obtain ⟨q0, q1⟩ := At.z2 b2.at0; have lq := b2.lt; have fq := b2.free; have HB2 := hide b2; clear b2)
          have HB : Hid (Pr (w2.setCell ⟨g, 1, none⟩ (.int .i64 ((i : Int) + 1))) g s (i + 1)) := Pr.put HB2.out (by omega)
          have HM : Hid (Mv g w (w2.setCell ⟨g, 1, none⟩ (.int .i64 ((i : Int) + 1)))) := (Mv.of_step hs2).put _
          obtain ⟨X, hX⟩ : ∃ x : World, x = w2.setCell ⟨g, 1, none⟩ (.int .i64 ((i : Int) + 1)) := ⟨_, rfl⟩
          rw [← hX] at HB HM
          rw [← hX]
          clear hX q0 q1 lq fq HB2
          go_wp2_with (first | (go_at_call 62; (with_reducible refine (HXA.out _ HB.out).mono ?_); rintro e w3 ⟨⟨rfl, hb3, hl3⟩, hm3⟩; have HB3 := hide hb3; have HM3 : Hid (Mv g w w3) := grown_trans HM.out hm3; clear hb3 hm3) | (go_at_call 63; (with_reducible refine (PT.out _).mono ?_); rintro e w6 ⟨rfl, hs6⟩) | (go_at_call 23; (with_reducible refine (bad_any _).mono ?_); rintro e w9 ⟨rfl, rfl⟩))
          exact ⟨rfl, by rw [HRN.out]; rfl, HM3.out.fut⟩
      | some l =>
        have HRN : Hid (r = some (l, i + 1 + 4)) := by show _ = _; rw [HRR.out, hp]; rfl
        have PT : Hid (∀ (w' : World), Calls Tryd.prog 63 #[.int .i64 X9] w' fun e w'' => e = .returned (.tuple #[.string (ofL l), .int .i64 0]) ∧ Step w' w'') := fun w' => by have := put_any X9 w'; rw [hp] at this; exact this
        clear hp hsur HRR HR hX9 hx
        rcases k1 with k1 | ⟨k1, k2⟩
        all_goals
          go_enter Tryd.func53, Tryd.ntmps53
          go_upto_region 19 with (go_at_call 32; (with_reducible refine (N0.out _ HH.out).mono ?_); rintro e w2 ⟨rfl, hs2⟩; have b2 := HH.out.fut (w' := w2); obtain ⟨q0, q1⟩ := At.z2 b2.at0; have lq := b2.lt; have fq := b2.free; have HB2 := hide b2; clear b2)
          have HB : Hid (Pr (w2.setCell ⟨g, 1, none⟩ (.int .i64 ((i : Int) + 1))) g s (i + 1)) := Pr.put HB2.out (by omega)
          have HM : Hid (Mv g w (w2.setCell ⟨g, 1, none⟩ (.int .i64 ((i : Int) + 1)))) := (Mv.of_step hs2).put _
          obtain ⟨X, hX⟩ : ∃ x : World, x = w2.setCell ⟨g, 1, none⟩ (.int .i64 ((i : Int) + 1)) := ⟨_, rfl⟩
          rw [← hX] at HB HM
          rw [← hX]
          clear hX q0 q1 lq fq HB2
          go_wp2_with (first | (go_at_call 62; (with_reducible refine (HXA.out _ HB.out).mono ?_); rintro e w3 ⟨⟨rfl, hb3, hl3⟩, hm3⟩; have HB3 := hide hb3; have HM3 : Hid (Mv g w w3) := grown_trans HM.out hm3; clear hb3 hm3) | (go_at_call 63; (with_reducible refine (PT.out _).mono ?_); rintro e w6 ⟨rfl, hs6⟩) | (go_at_call 23; (with_reducible refine (bad_any _).mono ?_); rintro e w9 ⟨rfl, rfl⟩))
          go_ret
          exact ⟨by rw [HRN.out]; exact ⟨rfl, HB3.out.fut, by omega⟩, HM3.out.fut⟩

theorem jesc_any (g : Nat) (s : ByteArray) (i : Nat) (r : Option (List UInt8 × Nat)) (w : World) (h : Pr w g s i) (hi : i ≤ s.size) (hr : escP s i = r) (hs : s.size ≤ 65536) :
    Calls Tryd.prog 53 #[.pointer (some ⟨g, 0, none⟩)] w fun e w' => EscR g s r e w' ∧ Mv g w w' := by
  by_cases n34 : bA s i = 34
  · exact esc34 g s i r w h hi hr hs n34
  by_cases n92 : bA s i = 92
  · exact esc92 g s i r w h hi hr hs n92
  by_cases n47 : bA s i = 47
  · exact esc47 g s i r w h hi hr hs n47
  by_cases n98 : bA s i = 98
  · exact esc98 g s i r w h hi hr hs n98
  by_cases n102 : bA s i = 102
  · exact esc102 g s i r w h hi hr hs n102
  by_cases n110 : bA s i = 110
  · exact esc110 g s i r w h hi hr hs n110
  by_cases n114 : bA s i = 114
  · exact esc114 g s i r w h hi hr hs n114
  by_cases n116 : bA s i = 116
  · exact esc116 g s i r w h hi hr hs n116
  by_cases n117 : bA s i = 117
  · exact esc117 g s i r w h hi hr hs n117
  exact escX g s i r w h hi hr hs ⟨n34, n92, n47, n98, n102, n110, n114, n116, n117⟩
end Go.Proofs.YtoibfefalflooaaDoor
