/-
  The program's parser: a value.
-/
import Derived.Test.YtoibfefalflooaaDoorJo
namespace Go.Proofs.YtoibfefalflooaaDoor
open Go.RowKit

set_option maxRecDepth 100000 in
theorem inner_deep (g : Nat) (c : Int) (dp : Int) (hdp : dp > 16) (w : World) :
    Calls Tryd.prog 35 #[.pointer (some ⟨g, 0, none⟩), .int .u8 c, .int .i64 dp] w fun e w' => e = .panicked [{ v := fault 301, recovered := false }] ∧ Step w w' := by
  go_enter Tryd.func35, Tryd.ntmps35
  go_wp2_with fail
  exact ⟨rfl, rfl, Step.of⟩

set_option maxRecDepth 100000 in
set_option maxHeartbeats 8000000 in
theorem open91 (g : Nat) (s : ByteArray) (i : Nat) (dp : Int) (hd0 : 0 ≤ dp) (hd1 : dp ≤ 16) (r : Except Int (J × Nat))
    (IN : ∀ w', Pr w' g s i → Calls Tryd.prog 35 #[.pointer (some ⟨g, 0, none⟩), .int .u8 91, .int .i64 (dp + 1)] w' fun e w'' => ValR w'.heap.size g s r e w'' ∧ Mv g w' w'')
    (w : World) (h : Pr w g s i) (hi : i ≤ s.size) (hc : bA s i = 91) (hs : s.size ≤ 65536) :
    Calls Tryd.prog 22 #[.pointer (some ⟨g, 0, none⟩), .int .i64 dp] w fun e w' => ValR w.heap.size g s r e w' ∧ Mv g w w' := by
  have HH := hide h
  have hlb := h.lt
  have N0 := fun w' (hp : Pr w' g s i) => jnext_any g s i w' hp hi hs
  rw [hc] at N0
  have N0 := hide N0
  clear h hc
  cases r with
  | error ec =>
    have HIN : Hid (∀ w', Pr w' g s i → Calls Tryd.prog 35 #[.pointer (some ⟨g, 0, none⟩), .int .u8 91, .int .i64 (dp + 1)] w' fun e w'' => e = .panicked [{ v := fault ec, recovered := false }] ∧ Mv g w' w'') := fun w' hp => IN w' hp
    clear IN
    go_enter Tryd.func22, Tryd.ntmps22
    go_upto_region 1 with fail
    obtain ⟨W1, hW1⟩ : ∃ x : World, x = w.alloc (.cells #[.int .i64 0, .bool false, .int .i64 0, .string ⟨#[]⟩, .slice none 0 0, .slice none 0 0] 25) := ⟨_, rfl⟩
    have HB1 : Hid (Blk W1 w.heap.size 25 zeroC) := by rw [hW1]; exact Blk.new w zeroC 25
    have HP1 : Hid (Pr W1 g s i) := by rw [hW1]; exact HH.out.alloc _
    have HM1 : Hid (Mv g w W1) := by rw [hW1]; exact Mv.of_step (w := w) Step.of
    rw [← hW1]
    clear hW1
    obtain ⟨bb, hbb⟩ : ∃ n, w.heap.size = n := ⟨_, rfl⟩
    rw [hbb] at HB1 hlb
    rw [hbb]
    have HBE := hide hbb
    clear hbb
    have hgb : g ≠ bb := by omega
    go_wp2_with (first | (go_at_call 32; (with_reducible refine (N0.out _ HP1.out).mono ?_); rintro e w2 ⟨rfl, hs2⟩; have HP2 := hide (HP1.out.fut (w' := w2)); have HB2 := hide (HB1.out.fut (w' := w2)); have HM2 : Hid (Mv g w w2) := HM1.out.fut) | (go_at_call 35; (with_reducible refine (HIN.out _ HP2.out).mono ?_); rintro e w3 ⟨rfl, hm3⟩; have HM3 : Hid (Mv g w w3) := grown_trans HM2.out hm3; clear hm3))
    exact ⟨rfl, rfl, HM3.out⟩
  | ok ji =>
    obtain ⟨j, i4⟩ := ji
    have HIN : Hid (∀ w', Pr w' g s i → Calls Tryd.prog 35 #[.pointer (some ⟨g, 0, none⟩), .int .u8 91, .int .i64 (dp + 1)] w' fun e w'' => (∃ (vk : Int) (vb : Bool) (vn : Int) (vs : ByteArray) (vA : Option Addr) (vc vnl : Nat) (vl : List T) (vAK : Option Addr) (vcK vnk : Nat) (vks : List ByteArray), e = .returned (.agg #[.int .i64 vk, .bool vb, .int .i64 vn, .string vs, .slice vA vnl vc, .slice vAK vnk vcK]) ∧ Hid (vl.length = vnl ∧ vks.length = vnk) ∧ Hid (T.j (.mk vk vb vn vs vA vc vl vAK vcK vks) = j) ∧ TAt w'' (fun q => w'.heap.size ≤ q) (.mk vk vb vn vs vA vc vl vAK vcK vks) ∧ Pr w'' g s i4 ∧ i4 ≤ s.size) ∧ Mv g w' w'') := fun w' hp => by
      exact (IN w' hp).mono fun e w'' hh => by
        obtain ⟨⟨t, h1, h2, h3, h4, h5⟩, h6⟩ := hh
        cases t with
        | mk vk vb vn vs vA vc vl vAK vcK vks => exact ⟨⟨vk, vb, vn, vs, vA, vc, _, vl, vAK, vcK, _, vks, h1, ⟨rfl, rfl⟩, h2, h3, h4, h5⟩, h6⟩
    clear IN
    go_enter Tryd.func22, Tryd.ntmps22
    go_upto_region 1 with fail
    obtain ⟨W1, hW1⟩ : ∃ x : World, x = w.alloc (.cells #[.int .i64 0, .bool false, .int .i64 0, .string ⟨#[]⟩, .slice none 0 0, .slice none 0 0] 25) := ⟨_, rfl⟩
    have HB1 : Hid (Blk W1 w.heap.size 25 zeroC) := by rw [hW1]; exact Blk.new w zeroC 25
    have HP1 : Hid (Pr W1 g s i) := by rw [hW1]; exact HH.out.alloc _
    have HM1 : Hid (Mv g w W1) := by rw [hW1]; exact Mv.of_step (w := w) Step.of
    rw [← hW1]
    clear hW1
    obtain ⟨bb, hbb⟩ : ∃ n, w.heap.size = n := ⟨_, rfl⟩
    rw [hbb] at HB1 hlb
    rw [hbb]
    have HBE := hide hbb
    clear hbb
    have hgb : g ≠ bb := by omega
    go_wp2_with (first | (go_at_call 32; (with_reducible refine (N0.out _ HP1.out).mono ?_); rintro e w2 ⟨rfl, hs2⟩; have HP2 := hide (HP1.out.fut (w' := w2)); have HB2 := hide (HB1.out.fut (w' := w2)); have HM2 : Hid (Mv g w w2) := HM1.out.fut) | (go_at_call 35; (with_reducible refine (HIN.out _ HP2.out).mono ?_); rintro e w3 ⟨⟨vk, vb, vn, vs, vA, vc, vnl, vl, vAK, vcK, vnk, vks, rfl, HVL, HVJ, ht3, hp3, hi3⟩, hm3⟩; have HP3 := hide hp3; have HT3 := hide ht3; have HB3 := hide (HB2.out.grown hm3 (by intro h_; injection h_ with h_; omega)); have HM3 : Hid (Mv g w w3) := grown_trans HM2.out hm3; have hbl := HB2.out.lt; clear hp3 hm3 ht3; obtain ⟨q0, q1, q2, q3, q4, q5⟩ := At.z6 HB3.out.at0; have lq := HB3.out.lt; have fq := HB3.out.free))
    have hF := set6_blk HB3.out (.int .i64 vk) (.bool vb) (.int .i64 vn) (.string vs) (.slice vA vnl vc) (.slice vAK vnk vcK)
    obtain ⟨c0, c1, c2, c3, c4, c5⟩ := At.z6 hF.at0
    unfold set6 at c0 c1 c2 c3 c4 c5
    refine bodyPost_ret (v := .agg #[.int .i64 vk, .bool vb, .int .i64 vn, .string vs, .slice vA vnl vc, .slice vAK vnk vcK]) (by simp [results, Tryd.results22, go_sem, c0, c1, c2, c3, c4, c5]) rfl ?_
    have hb2 := HM2.out.size
    rw [HBE.out] at hb2
    exact ⟨⟨(.mk vk vb vn vs vA vc vl vAK vcK vks), by rw [T.cells, HVL.out.1, HVL.out.2], HVJ.out, TAt.weak (fun q hq => by rw [HBE.out]; exact Nat.le_trans hb2 hq) (TAt.grown (set6_grown w3 bb (.int .i64 vk) (.bool vb) (.int .i64 vn) (.string vs) (.slice vA vnl vc) (.slice vAK vnk vcK)) (fun q hq e2 => by injection e2 with e2; have := HB2.out.lt; omega) HT3.out), set6_far HP3.out hgb (.int .i64 vk) (.bool vb) (.int .i64 vn) (.string vs) (.slice vA vnl vc) (.slice vAK vnk vcK), hi3⟩, Mv.down HM3.out (set6_below (by rw [HBE.out]; exact Nat.le_refl _) (.int .i64 vk) (.bool vb) (.int .i64 vn) (.string vs) (.slice vA vnl vc) (.slice vAK vnk vcK))⟩

set_option maxRecDepth 100000 in
set_option maxHeartbeats 8000000 in
theorem open123 (g : Nat) (s : ByteArray) (i : Nat) (dp : Int) (hd0 : 0 ≤ dp) (hd1 : dp ≤ 16) (r : Except Int (J × Nat))
    (IN : ∀ w', Pr w' g s i → Calls Tryd.prog 35 #[.pointer (some ⟨g, 0, none⟩), .int .u8 123, .int .i64 (dp + 1)] w' fun e w'' => ValR w'.heap.size g s r e w'' ∧ Mv g w' w'')
    (w : World) (h : Pr w g s i) (hi : i ≤ s.size) (hc : bA s i = 123) (hs : s.size ≤ 65536) :
    Calls Tryd.prog 22 #[.pointer (some ⟨g, 0, none⟩), .int .i64 dp] w fun e w' => ValR w.heap.size g s r e w' ∧ Mv g w w' := by
  have HH := hide h
  have hlb := h.lt
  have N0 := fun w' (hp : Pr w' g s i) => jnext_any g s i w' hp hi hs
  rw [hc] at N0
  have N0 := hide N0
  clear h hc
  cases r with
  | error ec =>
    have HIN : Hid (∀ w', Pr w' g s i → Calls Tryd.prog 35 #[.pointer (some ⟨g, 0, none⟩), .int .u8 123, .int .i64 (dp + 1)] w' fun e w'' => e = .panicked [{ v := fault ec, recovered := false }] ∧ Mv g w' w'') := fun w' hp => IN w' hp
    clear IN
    go_enter Tryd.func22, Tryd.ntmps22
    go_upto_region 1 with fail
    obtain ⟨W1, hW1⟩ : ∃ x : World, x = w.alloc (.cells #[.int .i64 0, .bool false, .int .i64 0, .string ⟨#[]⟩, .slice none 0 0, .slice none 0 0] 25) := ⟨_, rfl⟩
    have HB1 : Hid (Blk W1 w.heap.size 25 zeroC) := by rw [hW1]; exact Blk.new w zeroC 25
    have HP1 : Hid (Pr W1 g s i) := by rw [hW1]; exact HH.out.alloc _
    have HM1 : Hid (Mv g w W1) := by rw [hW1]; exact Mv.of_step (w := w) Step.of
    rw [← hW1]
    clear hW1
    obtain ⟨bb, hbb⟩ : ∃ n, w.heap.size = n := ⟨_, rfl⟩
    rw [hbb] at HB1 hlb
    rw [hbb]
    have HBE := hide hbb
    clear hbb
    have hgb : g ≠ bb := by omega
    go_wp2_with (first | (go_at_call 32; (with_reducible refine (N0.out _ HP1.out).mono ?_); rintro e w2 ⟨rfl, hs2⟩; have HP2 := hide (HP1.out.fut (w' := w2)); have HB2 := hide (HB1.out.fut (w' := w2)); have HM2 : Hid (Mv g w w2) := HM1.out.fut) | (go_at_call 35; (with_reducible refine (HIN.out _ HP2.out).mono ?_); rintro e w3 ⟨rfl, hm3⟩; have HM3 : Hid (Mv g w w3) := grown_trans HM2.out hm3; clear hm3))
    exact ⟨rfl, rfl, HM3.out⟩
  | ok ji =>
    obtain ⟨j, i4⟩ := ji
    have HIN : Hid (∀ w', Pr w' g s i → Calls Tryd.prog 35 #[.pointer (some ⟨g, 0, none⟩), .int .u8 123, .int .i64 (dp + 1)] w' fun e w'' => (∃ (vk : Int) (vb : Bool) (vn : Int) (vs : ByteArray) (vA : Option Addr) (vc vnl : Nat) (vl : List T) (vAK : Option Addr) (vcK vnk : Nat) (vks : List ByteArray), e = .returned (.agg #[.int .i64 vk, .bool vb, .int .i64 vn, .string vs, .slice vA vnl vc, .slice vAK vnk vcK]) ∧ Hid (vl.length = vnl ∧ vks.length = vnk) ∧ Hid (T.j (.mk vk vb vn vs vA vc vl vAK vcK vks) = j) ∧ TAt w'' (fun q => w'.heap.size ≤ q) (.mk vk vb vn vs vA vc vl vAK vcK vks) ∧ Pr w'' g s i4 ∧ i4 ≤ s.size) ∧ Mv g w' w'') := fun w' hp => by
      exact (IN w' hp).mono fun e w'' hh => by
        obtain ⟨⟨t, h1, h2, h3, h4, h5⟩, h6⟩ := hh
        cases t with
        | mk vk vb vn vs vA vc vl vAK vcK vks => exact ⟨⟨vk, vb, vn, vs, vA, vc, _, vl, vAK, vcK, _, vks, h1, ⟨rfl, rfl⟩, h2, h3, h4, h5⟩, h6⟩
    clear IN
    go_enter Tryd.func22, Tryd.ntmps22
    go_upto_region 1 with fail
    obtain ⟨W1, hW1⟩ : ∃ x : World, x = w.alloc (.cells #[.int .i64 0, .bool false, .int .i64 0, .string ⟨#[]⟩, .slice none 0 0, .slice none 0 0] 25) := ⟨_, rfl⟩
    have HB1 : Hid (Blk W1 w.heap.size 25 zeroC) := by rw [hW1]; exact Blk.new w zeroC 25
    have HP1 : Hid (Pr W1 g s i) := by rw [hW1]; exact HH.out.alloc _
    have HM1 : Hid (Mv g w W1) := by rw [hW1]; exact Mv.of_step (w := w) Step.of
    rw [← hW1]
    clear hW1
    obtain ⟨bb, hbb⟩ : ∃ n, w.heap.size = n := ⟨_, rfl⟩
    rw [hbb] at HB1 hlb
    rw [hbb]
    have HBE := hide hbb
    clear hbb
    have hgb : g ≠ bb := by omega
    go_wp2_with (first | (go_at_call 32; (with_reducible refine (N0.out _ HP1.out).mono ?_); rintro e w2 ⟨rfl, hs2⟩; have HP2 := hide (HP1.out.fut (w' := w2)); have HB2 := hide (HB1.out.fut (w' := w2)); have HM2 : Hid (Mv g w w2) := HM1.out.fut) | (go_at_call 35; (with_reducible refine (HIN.out _ HP2.out).mono ?_); rintro e w3 ⟨⟨vk, vb, vn, vs, vA, vc, vnl, vl, vAK, vcK, vnk, vks, rfl, HVL, HVJ, ht3, hp3, hi3⟩, hm3⟩; have HP3 := hide hp3; have HT3 := hide ht3; have HB3 := hide (HB2.out.grown hm3 (by intro h_; injection h_ with h_; omega)); have HM3 : Hid (Mv g w w3) := grown_trans HM2.out hm3; have hbl := HB2.out.lt; clear hp3 hm3 ht3; obtain ⟨q0, q1, q2, q3, q4, q5⟩ := At.z6 HB3.out.at0; have lq := HB3.out.lt; have fq := HB3.out.free))
    have hF := set6_blk HB3.out (.int .i64 vk) (.bool vb) (.int .i64 vn) (.string vs) (.slice vA vnl vc) (.slice vAK vnk vcK)
    obtain ⟨c0, c1, c2, c3, c4, c5⟩ := At.z6 hF.at0
    unfold set6 at c0 c1 c2 c3 c4 c5
    refine bodyPost_ret (v := .agg #[.int .i64 vk, .bool vb, .int .i64 vn, .string vs, .slice vA vnl vc, .slice vAK vnk vcK]) (by simp [results, Tryd.results22, go_sem, c0, c1, c2, c3, c4, c5]) rfl ?_
    have hb2 := HM2.out.size
    rw [HBE.out] at hb2
    exact ⟨⟨(.mk vk vb vn vs vA vc vl vAK vcK vks), by rw [T.cells, HVL.out.1, HVL.out.2], HVJ.out, TAt.weak (fun q hq => by rw [HBE.out]; exact Nat.le_trans hb2 hq) (TAt.grown (set6_grown w3 bb (.int .i64 vk) (.bool vb) (.int .i64 vn) (.string vs) (.slice vA vnl vc) (.slice vAK vnk vcK)) (fun q hq e2 => by injection e2 with e2; have := HB2.out.lt; omega) HT3.out), set6_far HP3.out hgb (.int .i64 vk) (.bool vb) (.int .i64 vn) (.string vs) (.slice vA vnl vc) (.slice vAK vnk vcK), hi3⟩, Mv.down HM3.out (set6_below (by rw [HBE.out]; exact Nat.le_refl _) (.int .i64 vk) (.bool vb) (.int .i64 vn) (.string vs) (.slice vA vnl vc) (.slice vAK vnk vcK))⟩

/-- A value: what the program's parser says of it. -/
theorem jvalue_any (g : Nat) (s : ByteArray) (hs : s.size ≤ 65536) : ∀ (d : Nat), d ≤ 16 → ∀ (i : Nat) (w : World), Pr w g s i → i ≤ s.size →
    Calls Tryd.prog 22 #[.pointer (some ⟨g, 0, none⟩), .int .i64 (16 - (d : Int))] w fun e w' => ValR w.heap.size g s (valP s d i) e w' ∧ Mv g w w'
  | 0, _, i, w, h, hi => by
    by_cases h1 : bA s i = 91
    · rw [show valP s 0 i = .error 301 by rw [valP, if_pos (.inl h1)]]
      exact open91 g s i _ (by omega) (by omega) (.error 301) (fun w' hp => (inner_deep g 91 _ (by omega) w').mono fun e w'' hh => ⟨hh.1, Mv.of_step hh.2⟩) w h hi h1 hs
    by_cases h2 : bA s i = 123
    · rw [show valP s 0 i = .error 301 by rw [valP, if_pos (.inr h2)]]
      exact open123 g s i _ (by omega) (by omega) (.error 301) (fun w' hp => (inner_deep g 123 _ (by omega) w').mono fun e w'' hh => ⟨hh.1, Mv.of_step hh.2⟩) w h hi h2 hs
    exact val_leaf g s i _ w h hi ⟨h1, h2⟩ _ (by rw [valP, if_neg (by omega)]) hs
  | d + 1, hd, i, w, h, hi => by
    have IH := fun k w' hp hk => jvalue_any g s hs d (by omega) k w' hp hk
    have hdd : (16 : Int) - ((d + 1 : Nat) : Int) + 1 = 16 - (d : Int) := by omega
    by_cases h1 : bA s i = 91
    · have hin : i < s.size := bA_lt (by omega)
      rw [show valP s (d + 1) i = innP (valP s d) s false i by rw [valP, if_pos (.inl h1), show decide (bA s i = 123) = false from decide_eq_false (by omega), if_neg (by omega : ¬ bA s i = 123)]; rfl]
      exact open91 g s i _ (by omega) (by omega) _ (fun w' hp => by rw [hdd]; exact inner_list g s i _ (by omega) (valP s d) (val_gt s d) IH w' hp hin hs _ rfl) w h hi h1 hs
    by_cases h2 : bA s i = 123
    · have hin : i < s.size := bA_lt (by omega)
      rw [show valP s (d + 1) i = innP (valP s d) s true i by rw [valP, if_pos (.inr h2), show decide (bA s i = 123) = true from decide_eq_true h2, if_pos h2]; rfl]
      exact open123 g s i _ (by omega) (by omega) _ (fun w' hp => by rw [hdd]; exact inner_obj g s i _ (by omega) (valP s d) (val_gt s d) IH w' hp hin hs _ rfl) w h hi h2 hs
    exact val_leaf g s i _ w h hi ⟨h1, h2⟩ _ (by rw [valP, if_neg (by omega)]) hs
end Go.Proofs.YtoibfefalflooaaDoor
