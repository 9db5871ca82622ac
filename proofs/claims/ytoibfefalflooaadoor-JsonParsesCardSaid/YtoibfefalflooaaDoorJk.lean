/-
  The program's parser: a value that is no list and no object.
-/
import Derived.Test.YtoibfefalflooaaDoorJi
import Derived.Test.YtoibfefalflooaaDoorJj
namespace Go.Proofs.YtoibfefalflooaaDoor
open Go.RowKit

/-- How a value ends. -/
def ValR (B g : Nat) (s : ByteArray) (r : Except Int (J × Nat)) (e : Ending) (w' : World) : Prop :=
  match r with
  | .ok (j, i) => ∃ t : T, e = .returned (.agg t.cells.toArray) ∧ t.j = j ∧ TAt w' (fun k => B ≤ k) t ∧ Pr w' g s i ∧ i ≤ s.size
  | .error c => e = .panicked [{ v := fault c, recovered := false }]
def zeroC : List Value := [.int .i64 0, .bool false, .int .i64 0, .string ⟨#[]⟩, .slice none 0 0, .slice none 0 0]
def set6 (w : World) (b : Nat) (a0 a1 a2 a3 a4 a5 : Value) : World :=
  (((((w.setCell ⟨b, 0, none⟩ a0).setCell ⟨b, 1, none⟩ a1).setCell ⟨b, 2, none⟩ a2).setCell ⟨b, 3, none⟩ a3).setCell ⟨b, 4, none⟩ a4).setCell ⟨b, 5, none⟩ a5
theorem set6_blk {w : World} {b : Nat} {t : TypeId} {x0 x1 x2 x3 x4 x5 : Value} (h : Blk w b t [x0, x1, x2, x3, x4, x5]) (a0 a1 a2 a3 a4 a5 : Value) : Blk (set6 w b a0 a1 a2 a3 a4 a5) b t [a0, a1, a2, a3, a4, a5] :=
  (((((h.set_ 0 a0).set_ 1 a1).set_ 2 a2).set_ 3 a3).set_ 4 a4).set_ 5 a5
theorem set6_far {w : World} {b g : Nat} {t : TypeId} {cs : List Value} (h : Blk w g t cs) (hne : g ≠ b) (a0 a1 a2 a3 a4 a5 : Value) : Blk (set6 w b a0 a1 a2 a3 a4 a5) g t cs :=
  (((((h.far (p := ⟨b, 0, none⟩) hne a0).far (p := ⟨b, 1, none⟩) hne a1).far (p := ⟨b, 2, none⟩) hne a2).far (p := ⟨b, 3, none⟩) hne a3).far (p := ⟨b, 4, none⟩) hne a4).far (p := ⟨b, 5, none⟩) hne a5
theorem set6_below {w : World} {n b : Nat} (hb : n ≤ b) (a0 a1 a2 a3 a4 a5 : Value) : Below n w (set6 w b a0 a1 a2 a3 a4 a5) :=
  ((((((Below.refl n w).setCell (p := ⟨b, 0, none⟩) hb a0).setCell (p := ⟨b, 1, none⟩) hb a1).setCell (p := ⟨b, 2, none⟩) hb a2).setCell (p := ⟨b, 3, none⟩) hb a3).setCell (p := ⟨b, 4, none⟩) hb a4).setCell (p := ⟨b, 5, none⟩) hb a5


set_option maxRecDepth 100000 in
set_option maxHeartbeats 8000000 in
theorem val110 (g : Nat) (s : ByteArray) (i : Nat) (dp : Int) (w : World) (h : Pr w g s i) (hi : i ≤ s.size) (hc : bA s i = 110) (r : Except Int (J × Nat)) (hr : leafP s i = r) (hs : s.size ≤ 65536) :
    Calls Tryd.prog 22 #[.pointer (some ⟨g, 0, none⟩), .int .i64 dp] w fun e w' => ValR w.heap.size g s r e w' ∧ Mv g w w' := by
  have HH := hide h
  have hlb := h.lt
  clear h
  have N0 := fun w' (hp : Pr w' g s i) => jnext_any g s i w' hp hi hs
  rw [hc] at N0
  have N0 := hide N0
  have HL : Hid (r = if wordB s i [110, 117, 108, 108] then .ok (J.zero, i + 4) else .error 300) := by show _ = _; rw [← hr, leafP, hc]; rfl
  clear hr hc
  cases hw : wordB s i [110, 117, 108, 108] with
  | true =>
    have hij : i + 4 ≤ s.size := by have := word_len hi hw; simpa using this
    have HR : Hid (r = .ok (J.zero, i + 4)) := by show _ = _; rw [HL.out, hw]; rfl
    have HW : Hid (∀ w', Pr w' g s i → Calls Tryd.prog 33 #[.pointer (some ⟨g, 0, none⟩), .string ⟨#[110, 117, 108, 108]⟩] w' fun e w'' => (e = .returned (.tuple #[]) ∧ Pr w'' g s (i + 4)) ∧ Mv g w' w'') := fun w' hp => jword_any g s ⟨#[110, 117, 108, 108]⟩ i true w' hp hi hw hs (by decide)
    clear hw HL
    go_enter Tryd.func22, Tryd.ntmps22
    go_upto_region 1 with fail
    obtain ⟨W1, hW1⟩ : ∃ x : World, x = w.alloc (.cells #[.int .i64 0, .bool false, .int .i64 0, .string ⟨#[]⟩, .slice none 0 0, .slice none 0 0] 25) := ⟨_, rfl⟩
    have HB1 : Hid (Blk W1 w.heap.size 25 zeroC) := by rw [hW1]; exact Blk.new w zeroC 25
    have HP1 : Hid (Pr W1 g s i) := by rw [hW1]; exact HH.out.alloc _
    have HM1 : Hid (Mv g w W1) := by rw [hW1]; exact Mv.of_step (w := w) Step.of
    rw [← hW1]
    clear hW1
    obtain ⟨bb, hbb⟩ : ∃ n, w.heap.size = n := ⟨_, rfl⟩
    rw [hbb] at HB1 hlb
    rw [hbb]
    have HBE := hide hbb
    clear hbb
    have hgb : g ≠ bb := by omega
    go_wp2_with (first | (go_at_call 32; (with_reducible refine (N0.out _ HP1.out).mono ?_); rintro e w2 ⟨rfl, hs2⟩; have HP2 := hide (HP1.out.fut (w' := w2)); have HB2 := hide (HB1.out.fut (w' := w2)); have HM2 : Hid (Mv g w w2) := HM1.out.fut) | (go_at_call 33; (with_reducible refine (HW.out _ HP2.out).mono ?_); rintro e w3 ⟨⟨rfl, hp3⟩, hm3⟩; have HP3 := hide hp3; have HB3 := hide (HB2.out.grown hm3 (by intro h_; injection h_ with h_; omega)); have HM3 : Hid (Mv g w w3) := grown_trans HM2.out hm3; clear hp3 hm3; obtain ⟨q0, q1, q2, q3, q4, q5⟩ := At.z6 HB3.out.at0; have lq := HB3.out.lt; have fq := HB3.out.free))
    have hF := set6_blk HB3.out (.int .i64 0) (.bool false) (.int .i64 0) (.string ⟨#[]⟩) (.slice none 0 0) (.slice none 0 0)
    obtain ⟨c0, c1, c2, c3, c4, c5⟩ := At.z6 hF.at0
    unfold set6 at c0 c1 c2 c3 c4 c5
    refine bodyPost_ret (v := .agg #[.int .i64 0, .bool false, .int .i64 0, .string ⟨#[]⟩, .slice none 0 0, .slice none 0 0]) (by simp [results, Tryd.results22, go_sem, c0, c1, c2, c3, c4, c5]) rfl ?_
    exact ⟨by rw [HR.out]; exact ⟨.mk (0) false (0) ⟨#[]⟩ none 0 [] none 0 [], rfl, rfl, TAt.leaf _ _ _ _ _ _, set6_far HP3.out hgb (.int .i64 0) (.bool false) (.int .i64 0) (.string ⟨#[]⟩) (.slice none 0 0) (.slice none 0 0), hij⟩, Mv.down HM3.out (set6_below (by rw [HBE.out]; exact Nat.le_refl _) (.int .i64 0) (.bool false) (.int .i64 0) (.string ⟨#[]⟩) (.slice none 0 0) (.slice none 0 0))⟩
  | false =>
    have HR : Hid (r = .error 300) := by show _ = _; rw [HL.out, hw]; rfl
    have HW : Hid (∀ w', Pr w' g s i → Calls Tryd.prog 33 #[.pointer (some ⟨g, 0, none⟩), .string ⟨#[110, 117, 108, 108]⟩] w' fun e w'' => e = .panicked [{ v := fault 300, recovered := false }] ∧ Mv g w' w'') := fun w' hp => jword_any g s ⟨#[110, 117, 108, 108]⟩ i false w' hp hi hw hs (by decide)
    clear hw HL
    go_enter Tryd.func22, Tryd.ntmps22
    go_upto_region 1 with fail
    obtain ⟨W1, hW1⟩ : ∃ x : World, x = w.alloc (.cells #[.int .i64 0, .bool false, .int .i64 0, .string ⟨#[]⟩, .slice none 0 0, .slice none 0 0] 25) := ⟨_, rfl⟩
    have HB1 : Hid (Blk W1 w.heap.size 25 zeroC) := by rw [hW1]; exact Blk.new w zeroC 25
    have HP1 : Hid (Pr W1 g s i) := by rw [hW1]; exact HH.out.alloc _
    have HM1 : Hid (Mv g w W1) := by rw [hW1]; exact Mv.of_step (w := w) Step.of
    rw [← hW1]
    clear hW1
    obtain ⟨bb, hbb⟩ : ∃ n, w.heap.size = n := ⟨_, rfl⟩
    rw [hbb] at HB1 hlb
    rw [hbb]
    have HBE := hide hbb
    clear hbb
    have hgb : g ≠ bb := by omega
    go_wp2_with (first | (go_at_call 32; (with_reducible refine (N0.out _ HP1.out).mono ?_); rintro e w2 ⟨rfl, hs2⟩; have HP2 := hide (HP1.out.fut (w' := w2)); have HB2 := hide (HB1.out.fut (w' := w2)); have HM2 : Hid (Mv g w w2) := HM1.out.fut) | (go_at_call 33; (with_reducible refine (HW.out _ HP2.out).mono ?_); rintro e w3 ⟨rfl, hm3⟩; have HM3 : Hid (Mv g w w3) := grown_trans HM2.out hm3; clear hm3))
    exact ⟨rfl, by rw [HR.out]; rfl, HM3.out⟩

set_option maxRecDepth 100000 in
set_option maxHeartbeats 8000000 in
theorem val116 (g : Nat) (s : ByteArray) (i : Nat) (dp : Int) (w : World) (h : Pr w g s i) (hi : i ≤ s.size) (hc : bA s i = 116) (r : Except Int (J × Nat)) (hr : leafP s i = r) (hs : s.size ≤ 65536) :
    Calls Tryd.prog 22 #[.pointer (some ⟨g, 0, none⟩), .int .i64 dp] w fun e w' => ValR w.heap.size g s r e w' ∧ Mv g w w' := by
  have HH := hide h
  have hlb := h.lt
  clear h
  have N0 := fun w' (hp : Pr w' g s i) => jnext_any g s i w' hp hi hs
  rw [hc] at N0
  have N0 := hide N0
  have HL : Hid (r = if wordB s i [116, 114, 117, 101] then .ok (.mk 1 true 0 ⟨#[]⟩ [] [], i + 4) else .error 300) := by show _ = _; rw [← hr, leafP, hc]; rfl
  clear hr hc
  cases hw : wordB s i [116, 114, 117, 101] with
  | true =>
    have hij : i + 4 ≤ s.size := by have := word_len hi hw; simpa using this
    have HR : Hid (r = .ok (.mk 1 true 0 ⟨#[]⟩ [] [], i + 4)) := by show _ = _; rw [HL.out, hw]; rfl
    have HW : Hid (∀ w', Pr w' g s i → Calls Tryd.prog 33 #[.pointer (some ⟨g, 0, none⟩), .string ⟨#[116, 114, 117, 101]⟩] w' fun e w'' => (e = .returned (.tuple #[]) ∧ Pr w'' g s (i + 4)) ∧ Mv g w' w'') := fun w' hp => jword_any g s ⟨#[116, 114, 117, 101]⟩ i true w' hp hi hw hs (by decide)
    clear hw HL
    go_enter Tryd.func22, Tryd.ntmps22
    go_upto_region 1 with fail
    obtain ⟨W1, hW1⟩ : ∃ x : World, x = w.alloc (.cells #[.int .i64 0, .bool false, .int .i64 0, .string ⟨#[]⟩, .slice none 0 0, .slice none 0 0] 25) := ⟨_, rfl⟩
    have HB1 : Hid (Blk W1 w.heap.size 25 zeroC) := by rw [hW1]; exact Blk.new w zeroC 25
    have HP1 : Hid (Pr W1 g s i) := by rw [hW1]; exact HH.out.alloc _
    have HM1 : Hid (Mv g w W1) := by rw [hW1]; exact Mv.of_step (w := w) Step.of
    rw [← hW1]
    clear hW1
    obtain ⟨bb, hbb⟩ : ∃ n, w.heap.size = n := ⟨_, rfl⟩
    rw [hbb] at HB1 hlb
    rw [hbb]
    have HBE := hide hbb
    clear hbb
    have hgb : g ≠ bb := by omega
    go_wp2_with (first | (go_at_call 32; (with_reducible refine (N0.out _ HP1.out).mono ?_); rintro e w2 ⟨rfl, hs2⟩; have HP2 := hide (HP1.out.fut (w' := w2)); have HB2 := hide (HB1.out.fut (w' := w2)); have HM2 : Hid (Mv g w w2) := HM1.out.fut) | (go_at_call 33; (with_reducible refine (HW.out _ HP2.out).mono ?_); rintro e w3 ⟨⟨rfl, hp3⟩, hm3⟩; have HP3 := hide hp3; have HB3 := hide (HB2.out.grown hm3 (by intro h_; injection h_ with h_; omega)); have HM3 : Hid (Mv g w w3) := grown_trans HM2.out hm3; clear hp3 hm3; obtain ⟨q0, q1, q2, q3, q4, q5⟩ := At.z6 HB3.out.at0; have lq := HB3.out.lt; have fq := HB3.out.free))
    have hF := set6_blk HB3.out (.int .i64 1) (.bool true) (.int .i64 0) (.string ⟨#[]⟩) (.slice none 0 0) (.slice none 0 0)
    obtain ⟨c0, c1, c2, c3, c4, c5⟩ := At.z6 hF.at0
    unfold set6 at c0 c1 c2 c3 c4 c5
    refine bodyPost_ret (v := .agg #[.int .i64 1, .bool true, .int .i64 0, .string ⟨#[]⟩, .slice none 0 0, .slice none 0 0]) (by simp [results, Tryd.results22, go_sem, c0, c1, c2, c3, c4, c5]) rfl ?_
    exact ⟨by rw [HR.out]; exact ⟨.mk (1) true (0) ⟨#[]⟩ none 0 [] none 0 [], rfl, rfl, TAt.leaf _ _ _ _ _ _, set6_far HP3.out hgb (.int .i64 1) (.bool true) (.int .i64 0) (.string ⟨#[]⟩) (.slice none 0 0) (.slice none 0 0), hij⟩, Mv.down HM3.out (set6_below (by rw [HBE.out]; exact Nat.le_refl _) (.int .i64 1) (.bool true) (.int .i64 0) (.string ⟨#[]⟩) (.slice none 0 0) (.slice none 0 0))⟩
  | false =>
    have HR : Hid (r = .error 300) := by show _ = _; rw [HL.out, hw]; rfl
    have HW : Hid (∀ w', Pr w' g s i → Calls Tryd.prog 33 #[.pointer (some ⟨g, 0, none⟩), .string ⟨#[116, 114, 117, 101]⟩] w' fun e w'' => e = .panicked [{ v := fault 300, recovered := false }] ∧ Mv g w' w'') := fun w' hp => jword_any g s ⟨#[116, 114, 117, 101]⟩ i false w' hp hi hw hs (by decide)
    clear hw HL
    go_enter Tryd.func22, Tryd.ntmps22
    go_upto_region 1 with fail
    obtain ⟨W1, hW1⟩ : ∃ x : World, x = w.alloc (.cells #[.int .i64 0, .bool false, .int .i64 0, .string ⟨#[]⟩, .slice none 0 0, .slice none 0 0] 25) := ⟨_, rfl⟩
    have HB1 : Hid (Blk W1 w.heap.size 25 zeroC) := by rw [hW1]; exact Blk.new w zeroC 25
    have HP1 : Hid (Pr W1 g s i) := by rw [hW1]; exact HH.out.alloc _
    have HM1 : Hid (Mv g w W1) := by rw [hW1]; exact Mv.of_step (w := w) Step.of
    rw [← hW1]
    clear hW1
    obtain ⟨bb, hbb⟩ : ∃ n, w.heap.size = n := ⟨_, rfl⟩
    rw [hbb] at HB1 hlb
    rw [hbb]
    have HBE := hide hbb
    clear hbb
    have hgb : g ≠ bb := by omega
    go_wp2_with (first | (go_at_call 32; (with_reducible refine (N0.out _ HP1.out).mono ?_); rintro e w2 ⟨rfl, hs2⟩; have HP2 := hide (HP1.out.fut (w' := w2)); have HB2 := hide (HB1.out.fut (w' := w2)); have HM2 : Hid (Mv g w w2) := HM1.out.fut) | (go_at_call 33; (with_reducible refine (HW.out _ HP2.out).mono ?_); rintro e w3 ⟨rfl, hm3⟩; have HM3 : Hid (Mv g w w3) := grown_trans HM2.out hm3; clear hm3))
    exact ⟨rfl, by rw [HR.out]; rfl, HM3.out⟩

set_option maxRecDepth 100000 in
set_option maxHeartbeats 8000000 in
theorem val102 (g : Nat) (s : ByteArray) (i : Nat) (dp : Int) (w : World) (h : Pr w g s i) (hi : i ≤ s.size) (hc : bA s i = 102) (r : Except Int (J × Nat)) (hr : leafP s i = r) (hs : s.size ≤ 65536) :
    Calls Tryd.prog 22 #[.pointer (some ⟨g, 0, none⟩), .int .i64 dp] w fun e w' => ValR w.heap.size g s r e w' ∧ Mv g w w' := by
  have HH := hide h
  have hlb := h.lt
  clear h
  have N0 := fun w' (hp : Pr w' g s i) => jnext_any g s i w' hp hi hs
  rw [hc] at N0
  have N0 := hide N0
  have HL : Hid (r = if wordB s i [102, 97, 108, 115, 101] then .ok (.mk 1 false 0 ⟨#[]⟩ [] [], i + 5) else .error 300) := by show _ = _; rw [← hr, leafP, hc]; rfl
  clear hr hc
  cases hw : wordB s i [102, 97, 108, 115, 101] with
  | true =>
    have hij : i + 5 ≤ s.size := by have := word_len hi hw; simpa using this
    have HR : Hid (r = .ok (.mk 1 false 0 ⟨#[]⟩ [] [], i + 5)) := by show _ = _; rw [HL.out, hw]; rfl
    have HW : Hid (∀ w', Pr w' g s i → Calls Tryd.prog 33 #[.pointer (some ⟨g, 0, none⟩), .string ⟨#[102, 97, 108, 115, 101]⟩] w' fun e w'' => (e = .returned (.tuple #[]) ∧ Pr w'' g s (i + 5)) ∧ Mv g w' w'') := fun w' hp => jword_any g s ⟨#[102, 97, 108, 115, 101]⟩ i true w' hp hi hw hs (by decide)
    clear hw HL
    go_enter Tryd.func22, Tryd.ntmps22
    go_upto_region 1 with fail
    obtain ⟨W1, hW1⟩ : ∃ x : World, x = w.alloc (.cells #[.int .i64 0, .bool false, .int .i64 0, .string ⟨#[]⟩, .slice none 0 0, .slice none 0 0] 25) := ⟨_, rfl⟩
    have HB1 : Hid (Blk W1 w.heap.size 25 zeroC) := by rw [hW1]; exact Blk.new w zeroC 25
    have HP1 : Hid (Pr W1 g s i) := by rw [hW1]; exact HH.out.alloc _
    have HM1 : Hid (Mv g w W1) := by rw [hW1]; exact Mv.of_step (w := w) Step.of
    rw [← hW1]
    clear hW1
    obtain ⟨bb, hbb⟩ : ∃ n, w.heap.size = n := ⟨_, rfl⟩
    rw [hbb] at HB1 hlb
    rw [hbb]
    have HBE := hide hbb
    clear hbb
    have hgb : g ≠ bb := by omega
    go_wp2_with (first | (go_at_call 32; (with_reducible refine (N0.out _ HP1.out).mono ?_); rintro e w2 ⟨rfl, hs2⟩; have HP2 := hide (HP1.out.fut (w' := w2)); have HB2 := hide (HB1.out.fut (w' := w2)); have HM2 : Hid (Mv g w w2) := HM1.out.fut) | (go_at_call 33; (with_reducible refine (HW.out _ HP2.out).mono ?_); rintro e w3 ⟨⟨rfl, hp3⟩, hm3⟩; have HP3 := hide hp3; have HB3 := hide (HB2.out.grown hm3 (by intro h_; injection h_ with h_; omega)); have HM3 : Hid (Mv g w w3) := grown_trans HM2.out hm3; clear hp3 hm3; obtain ⟨q0, q1, q2, q3, q4, q5⟩ := At.z6 HB3.out.at0; have lq := HB3.out.lt; have fq := HB3.out.free))
    have hF := set6_blk HB3.out (.int .i64 1) (.bool false) (.int .i64 0) (.string ⟨#[]⟩) (.slice none 0 0) (.slice none 0 0)
    obtain ⟨c0, c1, c2, c3, c4, c5⟩ := At.z6 hF.at0
    unfold set6 at c0 c1 c2 c3 c4 c5
    refine bodyPost_ret (v := .agg #[.int .i64 1, .bool false, .int .i64 0, .string ⟨#[]⟩, .slice none 0 0, .slice none 0 0]) (by simp [results, Tryd.results22, go_sem, c0, c1, c2, c3, c4, c5]) rfl ?_
    exact ⟨by rw [HR.out]; exact ⟨.mk (1) false (0) ⟨#[]⟩ none 0 [] none 0 [], rfl, rfl, TAt.leaf _ _ _ _ _ _, set6_far HP3.out hgb (.int .i64 1) (.bool false) (.int .i64 0) (.string ⟨#[]⟩) (.slice none 0 0) (.slice none 0 0), hij⟩, Mv.down HM3.out (set6_below (by rw [HBE.out]; exact Nat.le_refl _) (.int .i64 1) (.bool false) (.int .i64 0) (.string ⟨#[]⟩) (.slice none 0 0) (.slice none 0 0))⟩
  | false =>
    have HR : Hid (r = .error 300) := by show _ = _; rw [HL.out, hw]; rfl
    have HW : Hid (∀ w', Pr w' g s i → Calls Tryd.prog 33 #[.pointer (some ⟨g, 0, none⟩), .string ⟨#[102, 97, 108, 115, 101]⟩] w' fun e w'' => e = .panicked [{ v := fault 300, recovered := false }] ∧ Mv g w' w'') := fun w' hp => jword_any g s ⟨#[102, 97, 108, 115, 101]⟩ i false w' hp hi hw hs (by decide)
    clear hw HL
    go_enter Tryd.func22, Tryd.ntmps22
    go_upto_region 1 with fail
    obtain ⟨W1, hW1⟩ : ∃ x : World, x = w.alloc (.cells #[.int .i64 0, .bool false, .int .i64 0, .string ⟨#[]⟩, .slice none 0 0, .slice none 0 0] 25) := ⟨_, rfl⟩
    have HB1 : Hid (Blk W1 w.heap.size 25 zeroC) := by rw [hW1]; exact Blk.new w zeroC 25
    have HP1 : Hid (Pr W1 g s i) := by rw [hW1]; exact HH.out.alloc _
    have HM1 : Hid (Mv g w W1) := by rw [hW1]; exact Mv.of_step (w := w) Step.of
    rw [← hW1]
    clear hW1
    obtain ⟨bb, hbb⟩ : ∃ n, w.heap.size = n := ⟨_, rfl⟩
    rw [hbb] at HB1 hlb
    rw [hbb]
    have HBE := hide hbb
    clear hbb
    have hgb : g ≠ bb := by omega
    go_wp2_with (first | (go_at_call 32; (with_reducible refine (N0.out _ HP1.out).mono ?_); rintro e w2 ⟨rfl, hs2⟩; have HP2 := hide (HP1.out.fut (w' := w2)); have HB2 := hide (HB1.out.fut (w' := w2)); have HM2 : Hid (Mv g w w2) := HM1.out.fut) | (go_at_call 33; (with_reducible refine (HW.out _ HP2.out).mono ?_); rintro e w3 ⟨rfl, hm3⟩; have HM3 : Hid (Mv g w w3) := grown_trans HM2.out hm3; clear hm3))
    exact ⟨rfl, by rw [HR.out]; rfl, HM3.out⟩

set_option maxRecDepth 100000 in
set_option maxHeartbeats 8000000 in
theorem val34 (g : Nat) (s : ByteArray) (i : Nat) (dp : Int) (w : World) (h : Pr w g s i) (hi : i ≤ s.size) (hc : bA s i = 34) (r : Except Int (J × Nat)) (hr : leafP s i = r) (hs : s.size ≤ 65536) :
    Calls Tryd.prog 22 #[.pointer (some ⟨g, 0, none⟩), .int .i64 dp] w fun e w' => ValR w.heap.size g s r e w' ∧ Mv g w w' := by
  have HH := hide h
  have hlb := h.lt
  clear h
  have N0 := fun w' (hp : Pr w' g s i) => jnext_any g s i w' hp hi hs
  rw [hc] at N0
  have N0 := hide N0
  have HL : Hid (r = match textP s i with | none => .error 300 | some (t, j) => .ok (.mk 3 false 0 t [] [], j)) := by show _ = _; rw [← hr, leafP, hc]; rfl
  clear hr hc
  cases hw : textP s i with
  | some tj =>
    obtain ⟨t, j⟩ := tj
    have HR : Hid (r = .ok (.mk 3 false 0 t [] [], j)) := by show _ = _; rw [HL.out, hw]
    have HW : Hid (∀ w', Pr w' g s i → Calls Tryd.prog 34 #[.pointer (some ⟨g, 0, none⟩)] w' fun e w'' => (e = .returned (.string t) ∧ Pr w'' g s j ∧ j ≤ s.size) ∧ Mv g w' w'') := fun w' hp => jtext_any g s i (some (t, j)) w' hp hi hw hs
    clear hw HL
    go_enter Tryd.func22, Tryd.ntmps22
    go_upto_region 1 with fail
    obtain ⟨W1, hW1⟩ : ∃ x : World, x = w.alloc (.cells #[.int .i64 0, .bool false, .int .i64 0, .string ⟨#[]⟩, .slice none 0 0, .slice none 0 0] 25) := ⟨_, rfl⟩
    have HB1 : Hid (Blk W1 w.heap.size 25 zeroC) := by rw [hW1]; exact Blk.new w zeroC 25
    have HP1 : Hid (Pr W1 g s i) := by rw [hW1]; exact HH.out.alloc _
    have HM1 : Hid (Mv g w W1) := by rw [hW1]; exact Mv.of_step (w := w) Step.of
    rw [← hW1]
    clear hW1
    obtain ⟨bb, hbb⟩ : ∃ n, w.heap.size = n := ⟨_, rfl⟩
    rw [hbb] at HB1 hlb
    rw [hbb]
    have HBE := hide hbb
    clear hbb
    have hgb : g ≠ bb := by omega
    go_wp2_with (first | (go_at_call 32; (with_reducible refine (N0.out _ HP1.out).mono ?_); rintro e w2 ⟨rfl, hs2⟩; have HP2 := hide (HP1.out.fut (w' := w2)); have HB2 := hide (HB1.out.fut (w' := w2)); have HM2 : Hid (Mv g w w2) := HM1.out.fut) | (go_at_call 34; (with_reducible refine (HW.out _ HP2.out).mono ?_); rintro e w3 ⟨⟨rfl, hp3, hij⟩, hm3⟩; have HP3 := hide hp3; have HB3 := hide (HB2.out.grown hm3 (by intro h_; injection h_ with h_; omega)); have HM3 : Hid (Mv g w w3) := grown_trans HM2.out hm3; clear hp3 hm3; obtain ⟨q0, q1, q2, q3, q4, q5⟩ := At.z6 HB3.out.at0; have lq := HB3.out.lt; have fq := HB3.out.free))
    have hF := set6_blk HB3.out (.int .i64 3) (.bool false) (.int .i64 0) (.string t) (.slice none 0 0) (.slice none 0 0)
    obtain ⟨c0, c1, c2, c3, c4, c5⟩ := At.z6 hF.at0
    unfold set6 at c0 c1 c2 c3 c4 c5
    refine bodyPost_ret (v := .agg #[.int .i64 3, .bool false, .int .i64 0, .string t, .slice none 0 0, .slice none 0 0]) (by simp [results, Tryd.results22, go_sem, c0, c1, c2, c3, c4, c5]) rfl ?_
    exact ⟨by rw [HR.out]; exact ⟨.mk (3) false (0) t none 0 [] none 0 [], rfl, rfl, TAt.leaf _ _ _ _ _ _, set6_far HP3.out hgb (.int .i64 3) (.bool false) (.int .i64 0) (.string t) (.slice none 0 0) (.slice none 0 0), hij⟩, Mv.down HM3.out (set6_below (by rw [HBE.out]; exact Nat.le_refl _) (.int .i64 3) (.bool false) (.int .i64 0) (.string t) (.slice none 0 0) (.slice none 0 0))⟩
  | none =>
    have HR : Hid (r = .error 300) := by show _ = _; rw [HL.out, hw]
    have HW : Hid (∀ w', Pr w' g s i → Calls Tryd.prog 34 #[.pointer (some ⟨g, 0, none⟩)] w' fun e w'' => e = .panicked [{ v := fault 300, recovered := false }] ∧ Mv g w' w'') := fun w' hp => jtext_any g s i none w' hp hi hw hs
    clear hw HL
    go_enter Tryd.func22, Tryd.ntmps22
    go_upto_region 1 with fail
    obtain ⟨W1, hW1⟩ : ∃ x : World, x = w.alloc (.cells #[.int .i64 0, .bool false, .int .i64 0, .string ⟨#[]⟩, .slice none 0 0, .slice none 0 0] 25) := ⟨_, rfl⟩
    have HB1 : Hid (Blk W1 w.heap.size 25 zeroC) := by rw [hW1]; exact Blk.new w zeroC 25
    have HP1 : Hid (Pr W1 g s i) := by rw [hW1]; exact HH.out.alloc _
    have HM1 : Hid (Mv g w W1) := by rw [hW1]; exact Mv.of_step (w := w) Step.of
    rw [← hW1]
    clear hW1
    obtain ⟨bb, hbb⟩ : ∃ n, w.heap.size = n := ⟨_, rfl⟩
    rw [hbb] at HB1 hlb
    rw [hbb]
    have HBE := hide hbb
    clear hbb
    have hgb : g ≠ bb := by omega
    go_wp2_with (first | (go_at_call 32; (with_reducible refine (N0.out _ HP1.out).mono ?_); rintro e w2 ⟨rfl, hs2⟩; have HP2 := hide (HP1.out.fut (w' := w2)); have HB2 := hide (HB1.out.fut (w' := w2)); have HM2 : Hid (Mv g w w2) := HM1.out.fut) | (go_at_call 34; (with_reducible refine (HW.out _ HP2.out).mono ?_); rintro e w3 ⟨rfl, hm3⟩; have HM3 : Hid (Mv g w w3) := grown_trans HM2.out hm3; clear hm3))
    exact ⟨rfl, by rw [HR.out]; rfl, HM3.out⟩

set_option maxRecDepth 100000 in
set_option maxHeartbeats 8000000 in
theorem valN (g : Nat) (s : ByteArray) (i : Nat) (dp : Int) (w : World) (h : Pr w g s i) (hi : i ≤ s.size) (hc : bA s i ≠ 110 ∧ bA s i ≠ 116 ∧ bA s i ≠ 102 ∧ bA s i ≠ 34 ∧ bA s i ≠ 91 ∧ bA s i ≠ 123) (r : Except Int (J × Nat)) (hr : leafP s i = r) (hs : s.size ≤ 65536) :
    Calls Tryd.prog 22 #[.pointer (some ⟨g, 0, none⟩), .int .i64 dp] w fun e w' => ValR w.heap.size g s r e w' ∧ Mv g w w' := by
  have HH := hide h
  have hlb := h.lt
  clear h
  have N0 := fun w' (hp : Pr w' g s i) => jnext_any g s i w' hp hi hs
  obtain ⟨n110, n116, n102, n34, n91, n123⟩ := hc
  have HL : Hid (r = match numP s i with | none => .error 300 | some (x, j) => .ok (.mk 2 false x ⟨#[]⟩ [] [], j)) := by show _ = _; rw [← hr, leafP, if_neg n110, if_neg n116, if_neg n102, if_neg n34]; cases numP s i <;> rfl
  obtain ⟨C, hC⟩ : ∃ C : Int, (bA s i : Int) = C := ⟨_, rfl⟩
  have e110 : (C == 110) = false := beq_eq_false_iff_ne.2 (by omega)
  have e116 : (C == 116) = false := beq_eq_false_iff_ne.2 (by omega)
  have e102 : (C == 102) = false := beq_eq_false_iff_ne.2 (by omega)
  have e34 : (C == 34) = false := beq_eq_false_iff_ne.2 (by omega)
  have e91 : (C == 91) = false := beq_eq_false_iff_ne.2 (by omega)
  have e123 : (C == 123) = false := beq_eq_false_iff_ne.2 (by omega)
  rw [hC] at N0
  have N0 := hide N0
  clear hr hC n110 n116 n102 n34 n91 n123
  cases hw : numP s i with
  | some xj =>
    obtain ⟨x, j⟩ := xj
    have HR : Hid (r = .ok (.mk 2 false x ⟨#[]⟩ [] [], j)) := by show _ = _; rw [HL.out, hw]
    have HW : Hid (∀ w', Pr w' g s i → Calls Tryd.prog 36 #[.pointer (some ⟨g, 0, none⟩)] w' fun e w'' => (e = .returned (.int .i64 x) ∧ Pr w'' g s j ∧ j ≤ s.size) ∧ Mv g w' w'') := fun w' hp => (jnumber_any g s i (some (x, j)) w' hp hi hw hs).mono fun e w'' hh => ⟨⟨hh.1.1, hh.1.2.1, hh.1.2.2.1⟩, hh.2⟩
    clear hw HL
    go_enter Tryd.func22, Tryd.ntmps22
    go_upto_region 1 with fail
    obtain ⟨W1, hW1⟩ : ∃ x : World, x = w.alloc (.cells #[.int .i64 0, .bool false, .int .i64 0, .string ⟨#[]⟩, .slice none 0 0, .slice none 0 0] 25) := ⟨_, rfl⟩
    have HB1 : Hid (Blk W1 w.heap.size 25 zeroC) := by rw [hW1]; exact Blk.new w zeroC 25
    have HP1 : Hid (Pr W1 g s i) := by rw [hW1]; exact HH.out.alloc _
    have HM1 : Hid (Mv g w W1) := by rw [hW1]; exact Mv.of_step (w := w) Step.of
    rw [← hW1]
    clear hW1
    obtain ⟨bb, hbb⟩ : ∃ n, w.heap.size = n := ⟨_, rfl⟩
    rw [hbb] at HB1 hlb
    rw [hbb]
    have HBE := hide hbb
    clear hbb
    have hgb : g ≠ bb := by omega
    go_wp2_with (first | (go_at_call 32; (with_reducible refine (N0.out _ HP1.out).mono ?_); rintro e w2 ⟨rfl, hs2⟩; have HP2 := hide (HP1.out.fut (w' := w2)); have HB2 := hide (HB1.out.fut (w' := w2)); have HM2 : Hid (Mv g w w2) := HM1.out.fut) | (go_at_call 36; (with_reducible refine (HW.out _ HP2.out).mono ?_); rintro e w3 ⟨⟨rfl, hp3, hij⟩, hm3⟩; have HP3 := hide hp3; have HB3 := hide (HB2.out.grown hm3 (by intro h_; injection h_ with h_; omega)); have HM3 : Hid (Mv g w w3) := grown_trans HM2.out hm3; clear hp3 hm3; obtain ⟨q0, q1, q2, q3, q4, q5⟩ := At.z6 HB3.out.at0; have lq := HB3.out.lt; have fq := HB3.out.free))
    have hF := set6_blk HB3.out (.int .i64 2) (.bool false) (.int .i64 x) (.string ⟨#[]⟩) (.slice none 0 0) (.slice none 0 0)
    obtain ⟨c0, c1, c2, c3, c4, c5⟩ := At.z6 hF.at0
    unfold set6 at c0 c1 c2 c3 c4 c5
    refine bodyPost_ret (v := .agg #[.int .i64 2, .bool false, .int .i64 x, .string ⟨#[]⟩, .slice none 0 0, .slice none 0 0]) (by simp [results, Tryd.results22, go_sem, c0, c1, c2, c3, c4, c5]) rfl ?_
    exact ⟨by rw [HR.out]; exact ⟨.mk (2) false (x) ⟨#[]⟩ none 0 [] none 0 [], rfl, rfl, TAt.leaf _ _ _ _ _ _, set6_far HP3.out hgb (.int .i64 2) (.bool false) (.int .i64 x) (.string ⟨#[]⟩) (.slice none 0 0) (.slice none 0 0), hij⟩, Mv.down HM3.out (set6_below (by rw [HBE.out]; exact Nat.le_refl _) (.int .i64 2) (.bool false) (.int .i64 x) (.string ⟨#[]⟩) (.slice none 0 0) (.slice none 0 0))⟩
  | none =>
    have HR : Hid (r = .error 300) := by show _ = _; rw [HL.out, hw]
    have HW : Hid (∀ w', Pr w' g s i → Calls Tryd.prog 36 #[.pointer (some ⟨g, 0, none⟩)] w' fun e w'' => e = .panicked [{ v := fault 300, recovered := false }] ∧ Mv g w' w'') := fun w' hp => jnumber_any g s i none w' hp hi hw hs
    clear hw HL
    go_enter Tryd.func22, Tryd.ntmps22
    go_upto_region 1 with fail
    obtain ⟨W1, hW1⟩ : ∃ x : World, x = w.alloc (.cells #[.int .i64 0, .bool false, .int .i64 0, .string ⟨#[]⟩, .slice none 0 0, .slice none 0 0] 25) := ⟨_, rfl⟩
    have HB1 : Hid (Blk W1 w.heap.size 25 zeroC) := by rw [hW1]; exact Blk.new w zeroC 25
    have HP1 : Hid (Pr W1 g s i) := by rw [hW1]; exact HH.out.alloc _
    have HM1 : Hid (Mv g w W1) := by rw [hW1]; exact Mv.of_step (w := w) Step.of
    rw [← hW1]
    clear hW1
    obtain ⟨bb, hbb⟩ : ∃ n, w.heap.size = n := ⟨_, rfl⟩
    rw [hbb] at HB1 hlb
    rw [hbb]
    have HBE := hide hbb
    clear hbb
    have hgb : g ≠ bb := by omega
    go_wp2_with (first | (go_at_call 32; (with_reducible refine (N0.out _ HP1.out).mono ?_); rintro e w2 ⟨rfl, hs2⟩; have HP2 := hide (HP1.out.fut (w' := w2)); have HB2 := hide (HB1.out.fut (w' := w2)); have HM2 : Hid (Mv g w w2) := HM1.out.fut) | (go_at_call 36; (with_reducible refine (HW.out _ HP2.out).mono ?_); rintro e w3 ⟨rfl, hm3⟩; have HM3 : Hid (Mv g w w3) := grown_trans HM2.out hm3; clear hm3))
    exact ⟨rfl, by rw [HR.out]; rfl, HM3.out⟩

theorem val_leaf (g : Nat) (s : ByteArray) (i : Nat) (dp : Int) (w : World) (h : Pr w g s i) (hi : i ≤ s.size) (hc : bA s i ≠ 91 ∧ bA s i ≠ 123) (r : Except Int (J × Nat)) (hr : leafP s i = r) (hs : s.size ≤ 65536) :
    Calls Tryd.prog 22 #[.pointer (some ⟨g, 0, none⟩), .int .i64 dp] w fun e w' => ValR w.heap.size g s r e w' ∧ Mv g w w' := by
  by_cases n110 : bA s i = 110
  · exact val110 g s i dp w h hi n110 r hr hs
  by_cases n116 : bA s i = 116
  · exact val116 g s i dp w h hi n116 r hr hs
  by_cases n102 : bA s i = 102
  · exact val102 g s i dp w h hi n102 r hr hs
  by_cases n34 : bA s i = 34
  · exact val34 g s i dp w h hi n34 r hr hs
  exact valN g s i dp w h hi ⟨n110, n116, n102, n34, hc.1, hc.2⟩ r hr hs
end Go.Proofs.YtoibfefalflooaaDoor
