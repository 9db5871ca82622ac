/-
  The document's parser: a value; lists and objects by contract.
-/
import Derived.Test.YtoibfefalflooaaDoorF5
import Derived.Test.YtoibfefalflooaaDoorJn
import Derived.Test.YtoibfefalflooaaDoorFm
import Derived.Test.YtoibfefalflooaaDoorFp
namespace Go.Proofs.YtoibfefalflooaaDoor
open Go.RowKit

theorem dnumber_any (g : Nat) (s : ByteArray) (i : Nat) (w : World) (h : Dp w g s i 0) (hi : i ≤ s.size) (hs : s.size ≤ 65536) :
    Calls Tryd.prog 41 #[.pointer (some ⟨g, 0, none⟩)] w fun e w' => NumD g s (dnumP s i) e w' ∧ Mv g w w' := by
  by_cases hm : bA s i = 45
  · exact dnum_minus g s i w h hi hm hs
  · exact dnum_plus g s i w h hi hm hs
/-- How a value ends. -/
def ValD (B g : Nat) (s : ByteArray) (r : Except Int (J × Nat)) (e : Ending) (w' : World) : Prop :=
  match r with
  | .ok (j, i) => ∃ t : T, e = .returned (.agg t.cells.toArray) ∧ t.j = j ∧ TAt w' (fun k => B ≤ k) t ∧ Dp w' g s i 0 ∧ i ≤ s.size
  | .error c => ∃ (t : T) (i : Nat), e = .returned (.agg t.cells.toArray) ∧ Dp w' g s i c ∧ i ≤ s.size ∧ c ≠ 0
def leafD (s : ByteArray) (i : Nat) : Except Int (J × Nat) :=
  if wordB s i [110, 117, 108, 108] then .ok (J.zero, i + 4)
  else if wordB s i [116, 114, 117, 101] then .ok (.mk 1 true 0 ⟨#[]⟩ [] [], i + 4)
  else if wordB s i [102, 97, 108, 115, 101] then .ok (.mk 1 false 0 ⟨#[]⟩ [] [], i + 5)
  else if bA s i = 34 then (match textP s i with | none => .error 300 | some (t, j) => .ok (.mk 3 false 0 t [] [], j))
  else (match dnumP s i with | none => .error 300 | some (x, j) => .ok (.mk 2 false x ⟨#[]⟩ [] [], j))
theorem num_not {s : ByteArray} {i : Nat} (h : bA s i ≠ 45) (hd : isD (bA s i) = false) : numP s i = none := by
  rw [numP, if_neg h, dig_end hd]
  show numE false i (bA s i) 0 i = none
  rw [numE, if_pos (.inl rfl)]
theorem dnum_not {s : ByteArray} {i : Nat} (h : bA s i ≠ 45) (hd : isD (bA s i) = false) : dnumP s i = none := by rw [dnumP, num_not h hd]
theorem word_head {s : ByteArray} {i : Nat} {c : UInt8} {r : List UInt8} (h : wordB s i (c :: r) = true) : bA s i = c.toNat := by
  obtain ⟨h1, h2, _⟩ := word_step h
  rw [bA_at h1, h2]
theorem word_zero {s : ByteArray} {i : Nat} {c : UInt8} {r : List UInt8} (h : s.size ≤ i) : wordB s i (c :: r) = false := by
  cases hb : wordB s i (c :: r) with
  | false => rfl
  | true => obtain ⟨h1, _⟩ := word_step hb; omega

theorem val_cells {B g : Nat} {s : ByteArray} {r : Except Int (J × Nat)} {e : Ending} {w' : World} (h : ValD B g s r e w') : ∃ (vk : Int) (vb : Bool) (vn : Int) (vs : ByteArray) (vA : Option Addr) (vc : Nat) (vl : List T) (vAK : Option Addr) (vcK : Nat) (vks : List ByteArray), e = .returned (.agg #[.int .i64 vk, .bool vb, .int .i64 vn, .string vs, .slice vA vl.length vc, .slice vAK vks.length vcK]) ∧ Hid (ValD B g s r (.returned (.agg #[.int .i64 vk, .bool vb, .int .i64 vn, .string vs, .slice vA vl.length vc, .slice vAK vks.length vcK])) w') := by
  have h2 := h
  cases r with
  | ok p =>
    obtain ⟨t, rfl, _⟩ := h
    cases t with
    | mk vk vb vn vs vA vc vl vAK vcK vks => exact ⟨vk, vb, vn, vs, vA, vc, vl, vAK, vcK, vks, rfl, h2⟩
  | error c =>
    obtain ⟨t, i, rfl, _⟩ := h
    cases t with
    | mk vk vb vn vs vA vc vl vAK vcK vks => exact ⟨vk, vb, vn, vs, vA, vc, vl, vAK, vcK, vks, rfl, h2⟩
theorem val_set {B B0 g bb : Nat} {s : ByteArray} {r : Except Int (J × Nat)} {e : Ending} {w' : World} (hgb : g ≠ bb) (hB : B0 ≤ B) (hb : bb < B) (h : ValD B g s r e w') (a0 a1 a2 a3 a4 a5 : Value) : ValD B0 g s r e (set6 w' bb a0 a1 a2 a3 a4 a5) := by
  cases r with
  | ok p =>
    obtain ⟨t, h1, h2, h3, h4, h5⟩ := h
    exact ⟨t, h1, h2, TAt.weak (fun k hk => Nat.le_trans hB hk) (TAt.grown (set6_grown w' bb a0 a1 a2 a3 a4 a5) (fun k hk e2 => by injection e2 with e2; omega) h3), set6_far h4 hgb a0 a1 a2 a3 a4 a5, h5⟩
  | error c =>
    obtain ⟨t, i, h1, h2, h3⟩ := h
    exact ⟨t, i, h1, set6_far h2 hgb a0 a1 a2 a3 a4 a5, h3⟩

set_option maxRecDepth 100000 in
set_option maxHeartbeats 16000000 in
theorem dval_of (g : Nat) (s : ByteArray) (i : Nat) (dp : Int) (w : World) (h : Dp w g s i 0) (hi : i ≤ s.size) (hdp : -100 ≤ dp ∧ dp ≤ 100) (r : Except Int (J × Nat)) (hs : s.size ≤ 65536)
    (hleaf : bA s i ≠ 91 ∧ bA s i ≠ 123 → leafD s i = r)
    (hlist : bA s i = 91 → ∀ w', Dp w' g s i 0 → Calls Tryd.prog 39 #[.pointer (some ⟨g, 0, none⟩), .int .i64 (dp + 1)] w' fun e w'' => ValD w'.heap.size g s r e w'' ∧ Mv g w' w'')
    (hobj : bA s i = 123 → ∀ w', Dp w' g s i 0 → Calls Tryd.prog 40 #[.pointer (some ⟨g, 0, none⟩), .int .i64 (dp + 1)] w' fun e w'' => ValD w'.heap.size g s r e w'' ∧ Mv g w' w'') :
    Calls Tryd.prog 25 #[.pointer (some ⟨g, 0, none⟩), .int .i64 dp] w fun e w' => ValD w.heap.size g s r e w' ∧ Mv g w w' := by
  have HH := hide h
  have hlb := h.lt
  have HLE := hide hleaf; have HLI := hide hlist; have HOB := hide hobj
  obtain ⟨hdp1, hdp2⟩ := hdp
  clear h hleaf hlist hobj
  obtain ⟨W1, hW1⟩ : ∃ x : World, x = w.alloc (.cells #[.int .i64 0, .bool false, .int .i64 0, .string ⟨#[]⟩, .slice none 0 0, .slice none 0 0] 25) := ⟨_, rfl⟩
  have HBW1 : Hid (Blk W1 w.heap.size 25 zeroC) := by rw [hW1]; exact Blk.new w zeroC 25
  have HPW1 : Hid (Dp W1 g s i 0) := by rw [hW1]; exact HH.out.alloc _
  have HMW1 : Hid (Mv g w W1) := by rw [hW1]; exact Mv.of_step (w := w) Step.of
  have hzW : W1.heap.size = w.heap.size + 1 := by rw [hW1]; simp
  go_enter Tryd.func25, Tryd.ntmps25
  go_upto_region 2 with fail
  rw [← hW1]
  clear hW1
  obtain ⟨bb, hbb⟩ : ∃ n, w.heap.size = n := ⟨_, rfl⟩
  rw [hbb] at HBW1 hlb hzW
  rw [hbb]
  have HBE := hide hbb
  clear hbb
  have hgb : g ≠ bb := by omega
  obtain ⟨q0, q1, q2⟩ := At.z3 HPW1.out.at0
  have lq := HPW1.out.lt; have fq := HPW1.out.free
  by_cases hlt : i < s.size
  · have hkl : (i : Int) < (s.size : Int) := by omega
    have hk0 : (0 : Int) ≤ (i : Int) := by omega
    have hkd : decide ((i : Int) ≥ (s.size : Int)) = false := decide_eq_false (by omega)
    have hkd2 : decide ((s.size : Int) ≤ (i : Int)) = false := decide_eq_false (by omega)
    have hkd3 : decide (s.size ≤ i) = false := decide_eq_false (by omega)
    go_wp2_with fail
    go_quiet (fail)
    obtain ⟨w2, hw2⟩ : ∃ x, x = W1.drewN nq := ⟨_, rfl⟩
    have hsw2 : Step W1 w2 := by rw [hw2]; exact Step.of
    rw [← hw2]
    have HPw2 := hide (HPW1.out.fut (w' := w2))
    have HBw2 := hide (HBW1.out.fut (w' := w2))
    have HMw2 : Hid (Mv g w w2) := Mv.fut HMW1.out
    have hzw2 : bb + 1 ≤ w2.heap.size := by have := hsw2.size; omega
    clear hw2 q0 q1 q2 lq fq
    obtain ⟨q0, q1, q2⟩ := At.z3 HPw2.out.at0
    have lq := HPw2.out.lt; have fq := HPw2.out.free
    obtain ⟨b1, hb1⟩ : ∃ b, wordB s i [110, 117, 108, 108] = b := ⟨_, rfl⟩
    obtain ⟨b2, hb2⟩ : ∃ b, wordB s i [116, 114, 117, 101] = b := ⟨_, rfl⟩
    obtain ⟨b3, hb3⟩ : ∃ b, wordB s i [102, 97, 108, 115, 101] = b := ⟨_, rfl⟩
    have V1 : Hid (b1 = true → bA s i = 110 ∧ i + 4 ≤ s.size) := fun e => by subst e; exact ⟨word_head hb1, by have := word_len hi hb1; simpa using this⟩
    have V2 : Hid (b2 = true → bA s i = 116 ∧ i + 4 ≤ s.size) := fun e => by subst e; exact ⟨word_head hb2, by have := word_len hi hb2; simpa using this⟩
    have V3 : Hid (b3 = true → bA s i = 102 ∧ i + 5 ≤ s.size) := fun e => by subst e; exact ⟨word_head hb3, by have := word_len hi hb3; simpa using this⟩
    have K1 := hide (fun w' (hp : Dp w' g s i 0) => dword_any g s ⟨#[110, 117, 108, 108]⟩ i 0 b1 w' hp hi hb1 hs (by decide))
    have K2 := hide (fun w' (hp : Dp w' g s i 0) => dword_any g s ⟨#[116, 114, 117, 101]⟩ i 0 b2 w' hp hi hb2 hs (by decide))
    have K3 := hide (fun w' (hp : Dp w' g s i 0) => dword_any g s ⟨#[102, 97, 108, 115, 101]⟩ i 0 b3 w' hp hi hb3 hs (by decide))
    have HLF : Hid (leafD s i = if b1 = true then .ok (J.zero, i + 4) else if b2 = true then .ok (.mk 1 true 0 ⟨#[]⟩ [] [], i + 4) else if b3 = true then .ok (.mk 1 false 0 ⟨#[]⟩ [] [], i + 5) else if bA s i = 34 then (match textP s i with | none => .error 300 | some (t, j) => .ok (.mk 3 false 0 t [] [], j)) else (match dnumP s i with | none => .error 300 | some (x, j) => .ok (.mk 2 false x ⟨#[]⟩ [] [], j))) := by show _ = _; rw [← hb1, ← hb2, ← hb3]; rfl
    clear hb1 hb2 hb3 hkd hkd2 hkd3
    cases b1 with
    | true =>
      obtain ⟨hc, hij⟩ := V1.out rfl
      have HR : Hid (r = .ok (J.zero, i + 4)) := by show _ = _; rw [← HLE.out (by omega), HLF.out]; rfl
      have K1 : Hid (∀ w', Dp w' g s i 0 → Calls Tryd.prog 37 #[.pointer (some ⟨g, 0, none⟩), .string ⟨#[110, 117, 108, 108]⟩] w' fun e w'' => e = .returned (.bool true) ∧ Dp w'' g s (i + 4) 0 ∧ Mv g w' w'') := K1.out
      go_wp2_with (go_at_call 37; (with_reducible refine (K1.out _ HPw2.out).mono ?_); rintro e w3 ⟨rfl, hp_, hm_⟩; have HPw3 := hide hp_; have HBw3 := hide (HBw2.out.grown hm_ (by intro h_; injection h_ with h_; omega)); have HMw3 : Hid (Mv g w w3) := grown_trans HMw2.out hm_; have hzw3 : bb + 1 ≤ w3.heap.size := Nat.le_trans hzw2 hm_.size; clear hp_ hm_; obtain ⟨z0, z1, z2, z3, z4, z5⟩ := At.z6 HBw3.out.at0; have lz := HBw3.out.lt; have fz := HBw3.out.free)
      have hF := set6_blk HBw3.out (.int .i64 0) (.bool false) (.int .i64 0) (.string ⟨#[]⟩) (.slice none 0 0) (.slice none 0 0)
      clear z0 z1 z2 z3 z4 z5
      obtain ⟨c0, c1, c2, c3, c4, c5⟩ := At.z6 hF.at0
      unfold set6 at c0 c1 c2 c3 c4 c5
      refine bodyPost_ret (v := .agg #[.int .i64 0, .bool false, .int .i64 0, .string ⟨#[]⟩, .slice none 0 0, .slice none 0 0]) (by simp [results, Tryd.results25, go_sem, c0, c1, c2, c3, c4, c5]) rfl ?_
      exact ⟨by rw [HR.out]; exact ⟨.mk (0) false (0) ⟨#[]⟩ none 0 [] none 0 [], rfl, rfl, TAt.leaf _ _ _ _ _ _, set6_far HPw3.out hgb (.int .i64 0) (.bool false) (.int .i64 0) (.string ⟨#[]⟩) (.slice none 0 0) (.slice none 0 0), hij⟩, Mv.down HMw3.out (set6_below (by rw [HBE.out]; exact Nat.le_refl _) (.int .i64 0) (.bool false) (.int .i64 0) (.string ⟨#[]⟩) (.slice none 0 0) (.slice none 0 0))⟩
    | false =>
      have K1 : Hid (∀ w', Dp w' g s i 0 → Calls Tryd.prog 37 #[.pointer (some ⟨g, 0, none⟩), .string ⟨#[110, 117, 108, 108]⟩] w' fun e w'' => e = .returned (.bool false) ∧ Dp w'' g s i 0 ∧ Mv g w' w'') := K1.out
      cases b2 with
      | true =>
        obtain ⟨hc, hij⟩ := V2.out rfl
        have HR : Hid (r = .ok (.mk 1 true 0 ⟨#[]⟩ [] [], i + 4)) := by show _ = _; rw [← HLE.out (by omega), HLF.out]; rfl
        have K2 : Hid (∀ w', Dp w' g s i 0 → Calls Tryd.prog 37 #[.pointer (some ⟨g, 0, none⟩), .string ⟨#[116, 114, 117, 101]⟩] w' fun e w'' => e = .returned (.bool true) ∧ Dp w'' g s (i + 4) 0 ∧ Mv g w' w'') := K2.out
        go_wp2_with (first | (go_at_call 37; (with_reducible refine (K1.out _ HPw2.out).mono ?_); rintro e w3 ⟨rfl, hp_, hm_⟩; have HPw3 := hide hp_; have HBw3 := hide (HBw2.out.grown hm_ (by intro h_; injection h_ with h_; omega)); have HMw3 : Hid (Mv g w w3) := grown_trans HMw2.out hm_; have hzw3 : bb + 1 ≤ w3.heap.size := Nat.le_trans hzw2 hm_.size; clear hp_ hm_) | (go_at_call 37; (with_reducible refine (K2.out _ HPw3.out).mono ?_); rintro e w4 ⟨rfl, hp_, hm_⟩; have HPw4 := hide hp_; have HBw4 := hide (HBw3.out.grown hm_ (by intro h_; injection h_ with h_; omega)); have HMw4 : Hid (Mv g w w4) := grown_trans HMw3.out hm_; have hzw4 : bb + 1 ≤ w4.heap.size := Nat.le_trans hzw3 hm_.size; clear hp_ hm_; obtain ⟨z0, z1, z2, z3, z4, z5⟩ := At.z6 HBw4.out.at0; have lz := HBw4.out.lt; have fz := HBw4.out.free))
        have hF := set6_blk HBw4.out (.int .i64 1) (.bool true) (.int .i64 0) (.string ⟨#[]⟩) (.slice none 0 0) (.slice none 0 0)
        clear z0 z1 z2 z3 z4 z5
        obtain ⟨c0, c1, c2, c3, c4, c5⟩ := At.z6 hF.at0
        unfold set6 at c0 c1 c2 c3 c4 c5
        refine bodyPost_ret (v := .agg #[.int .i64 1, .bool true, .int .i64 0, .string ⟨#[]⟩, .slice none 0 0, .slice none 0 0]) (by simp [results, Tryd.results25, go_sem, c0, c1, c2, c3, c4, c5]) rfl ?_
        exact ⟨by rw [HR.out]; exact ⟨.mk (1) true (0) ⟨#[]⟩ none 0 [] none 0 [], rfl, rfl, TAt.leaf _ _ _ _ _ _, set6_far HPw4.out hgb (.int .i64 1) (.bool true) (.int .i64 0) (.string ⟨#[]⟩) (.slice none 0 0) (.slice none 0 0), hij⟩, Mv.down HMw4.out (set6_below (by rw [HBE.out]; exact Nat.le_refl _) (.int .i64 1) (.bool true) (.int .i64 0) (.string ⟨#[]⟩) (.slice none 0 0) (.slice none 0 0))⟩
      | false =>
        have K2 : Hid (∀ w', Dp w' g s i 0 → Calls Tryd.prog 37 #[.pointer (some ⟨g, 0, none⟩), .string ⟨#[116, 114, 117, 101]⟩] w' fun e w'' => e = .returned (.bool false) ∧ Dp w'' g s i 0 ∧ Mv g w' w'') := K2.out
        cases b3 with
        | true =>
          obtain ⟨hc, hij⟩ := V3.out rfl
          have HR : Hid (r = .ok (.mk 1 false 0 ⟨#[]⟩ [] [], i + 5)) := by show _ = _; rw [← HLE.out (by omega), HLF.out]; rfl
          have K3 : Hid (∀ w', Dp w' g s i 0 → Calls Tryd.prog 37 #[.pointer (some ⟨g, 0, none⟩), .string ⟨#[102, 97, 108, 115, 101]⟩] w' fun e w'' => e = .returned (.bool true) ∧ Dp w'' g s (i + 5) 0 ∧ Mv g w' w'') := K3.out
          go_wp2_with (first | (go_at_call 37; (with_reducible refine (K1.out _ HPw2.out).mono ?_); rintro e w3 ⟨rfl, hp_, hm_⟩; have HPw3 := hide hp_; have HBw3 := hide (HBw2.out.grown hm_ (by intro h_; injection h_ with h_; omega)); have HMw3 : Hid (Mv g w w3) := grown_trans HMw2.out hm_; have hzw3 : bb + 1 ≤ w3.heap.size := Nat.le_trans hzw2 hm_.size; clear hp_ hm_) | (go_at_call 37; (with_reducible refine (K2.out _ HPw3.out).mono ?_); rintro e w4 ⟨rfl, hp_, hm_⟩; have HPw4 := hide hp_; have HBw4 := hide (HBw3.out.grown hm_ (by intro h_; injection h_ with h_; omega)); have HMw4 : Hid (Mv g w w4) := grown_trans HMw3.out hm_; have hzw4 : bb + 1 ≤ w4.heap.size := Nat.le_trans hzw3 hm_.size; clear hp_ hm_) | (go_at_call 37; (with_reducible refine (K3.out _ HPw4.out).mono ?_); rintro e w5 ⟨rfl, hp_, hm_⟩; have HPw5 := hide hp_; have HBw5 := hide (HBw4.out.grown hm_ (by intro h_; injection h_ with h_; omega)); have HMw5 : Hid (Mv g w w5) := grown_trans HMw4.out hm_; have hzw5 : bb + 1 ≤ w5.heap.size := Nat.le_trans hzw4 hm_.size; clear hp_ hm_; obtain ⟨z0, z1, z2, z3, z4, z5⟩ := At.z6 HBw5.out.at0; have lz := HBw5.out.lt; have fz := HBw5.out.free))
          have hF := set6_blk HBw5.out (.int .i64 1) (.bool false) (.int .i64 0) (.string ⟨#[]⟩) (.slice none 0 0) (.slice none 0 0)
          clear z0 z1 z2 z3 z4 z5
          obtain ⟨c0, c1, c2, c3, c4, c5⟩ := At.z6 hF.at0
          unfold set6 at c0 c1 c2 c3 c4 c5
          refine bodyPost_ret (v := .agg #[.int .i64 1, .bool false, .int .i64 0, .string ⟨#[]⟩, .slice none 0 0, .slice none 0 0]) (by simp [results, Tryd.results25, go_sem, c0, c1, c2, c3, c4, c5]) rfl ?_
          exact ⟨by rw [HR.out]; exact ⟨.mk (1) false (0) ⟨#[]⟩ none 0 [] none 0 [], rfl, rfl, TAt.leaf _ _ _ _ _ _, set6_far HPw5.out hgb (.int .i64 1) (.bool false) (.int .i64 0) (.string ⟨#[]⟩) (.slice none 0 0) (.slice none 0 0), hij⟩, Mv.down HMw5.out (set6_below (by rw [HBE.out]; exact Nat.le_refl _) (.int .i64 1) (.bool false) (.int .i64 0) (.string ⟨#[]⟩) (.slice none 0 0) (.slice none 0 0))⟩
        | false =>
          have K3 : Hid (∀ w', Dp w' g s i 0 → Calls Tryd.prog 37 #[.pointer (some ⟨g, 0, none⟩), .string ⟨#[102, 97, 108, 115, 101]⟩] w' fun e w'' => e = .returned (.bool false) ∧ Dp w'' g s i 0 ∧ Mv g w' w'') := K3.out
          have hA := bA_at hlt
          have hcb := s[i].toNat_lt
          obtain ⟨c, hcc⟩ : ∃ c : Nat, s[i].toNat = c := ⟨_, rfl⟩
          have HC : (s[i].toNat : Int) = (c : Int) := by rw [hcc]
          rw [hcc] at hA hcb
          have HA := hide hA
          clear hcc V1 V2 V3
          go_upto_region 10 with (first | (go_at_call 37; (with_reducible refine (K1.out _ HPw2.out).mono ?_); rintro e w3 ⟨rfl, hp_, hm_⟩; have HPw3 := hide hp_; have HBw3 := hide (HBw2.out.grown hm_ (by intro h_; injection h_ with h_; omega)); have HMw3 : Hid (Mv g w w3) := grown_trans HMw2.out hm_; have hzw3 : bb + 1 ≤ w3.heap.size := Nat.le_trans hzw2 hm_.size; clear hp_ hm_) | (go_at_call 37; (with_reducible refine (K2.out _ HPw3.out).mono ?_); rintro e w4 ⟨rfl, hp_, hm_⟩; have HPw4 := hide hp_; have HBw4 := hide (HBw3.out.grown hm_ (by intro h_; injection h_ with h_; omega)); have HMw4 : Hid (Mv g w w4) := grown_trans HMw3.out hm_; have hzw4 : bb + 1 ≤ w4.heap.size := Nat.le_trans hzw3 hm_.size; clear hp_ hm_) | (go_at_call 37; (with_reducible refine (K3.out _ HPw4.out).mono ?_); rintro e w5 ⟨rfl, hp_, hm_⟩; have HPw5 := hide hp_; have HBw5 := hide (HBw4.out.grown hm_ (by intro h_; injection h_ with h_; omega)); have HMw5 : Hid (Mv g w w5) := grown_trans HMw4.out hm_; have hzw5 : bb + 1 ≤ w5.heap.size := Nat.le_trans hzw4 hm_.size; clear hp_ hm_; clear q0 q1 q2 lq fq; obtain ⟨q0, q1, q2⟩ := At.z3 HPw5.out.at0; have lq := HPw5.out.lt; have fq := HPw5.out.free))
          clear K1 K2 K3
          by_cases h34 : c = 34
          · have e34 : ((c : Int) == 34) = true := beq_iff_eq.2 (by omega)
            go_wp2_with fail
            go_quiet (fail)
            obtain ⟨w6, hw6⟩ : ∃ x, x = w5.drewN nq := ⟨_, rfl⟩
            have hsw6 : Step w5 w6 := by rw [hw6]; exact Step.of
            rw [← hw6]
            have HPw6 := hide (HPw5.out.fut (w' := w6))
            have HBw6 := hide (HBw5.out.fut (w' := w6))
            have HMw6 : Hid (Mv g w w6) := Mv.fut HMw5.out
            have hzw6 : bb + 1 ≤ w6.heap.size := by have := hsw6.size; omega
            clear hw6 q0 q1 q2 lq fq
            obtain ⟨q0, q1, q2⟩ := At.z3 HPw6.out.at0
            have lq := HPw6.out.lt; have fq := HPw6.out.free
            have HD := fun w' (hp : Dp w' g s i 0) => dtext_any g s i w' hp (by omega) hs
            cases hw : textP s i with
            | some tj =>
              obtain ⟨t, j⟩ := tj
              have HR : Hid (r = .ok (.mk 3 false 0 t [] [], j)) := by show _ = _; rw [← HLE.out (by omega), HLF.out, if_neg Bool.false_ne_true, if_neg Bool.false_ne_true, if_neg Bool.false_ne_true, if_pos (by omega), hw]
              rw [hw] at HD
              have HW : Hid (∀ w', Dp w' g s i 0 → Calls Tryd.prog 38 #[.pointer (some ⟨g, 0, none⟩)] w' fun e w'' => (e = .returned (.string t) ∧ Dp w'' g s j 0 ∧ j ≤ s.size) ∧ Mv g w' w'') := HD
              clear hw HD hA h34
              go_wp2_with (go_at_call 38; (with_reducible refine (HW.out _ HPw6.out).mono ?_); rintro e w7 ⟨⟨rfl, hp_, hij⟩, hm_⟩; have HPw7 := hide hp_; have HBw7 := hide (HBw6.out.grown hm_ (by intro h_; injection h_ with h_; omega)); have HMw7 : Hid (Mv g w w7) := grown_trans HMw6.out hm_; have hzw7 : bb + 1 ≤ w7.heap.size := Nat.le_trans hzw6 hm_.size; clear hp_ hm_; obtain ⟨z0, z1, z2, z3, z4, z5⟩ := At.z6 HBw7.out.at0; have lz := HBw7.out.lt; have fz := HBw7.out.free)
              have hF := set6_blk HBw7.out (.int .i64 3) (.bool false) (.int .i64 0) (.string t) (.slice none 0 0) (.slice none 0 0)
              clear z0 z1 z2 z3 z4 z5
              obtain ⟨c0, c1, c2, c3, c4, c5⟩ := At.z6 hF.at0
              unfold set6 at c0 c1 c2 c3 c4 c5
              refine bodyPost_ret (v := .agg #[.int .i64 3, .bool false, .int .i64 0, .string t, .slice none 0 0, .slice none 0 0]) (by simp [results, Tryd.results25, go_sem, c0, c1, c2, c3, c4, c5]) rfl ?_
              exact ⟨by rw [HR.out]; exact ⟨.mk (3) false (0) t none 0 [] none 0 [], rfl, rfl, TAt.leaf _ _ _ _ _ _, set6_far HPw7.out hgb (.int .i64 3) (.bool false) (.int .i64 0) (.string t) (.slice none 0 0) (.slice none 0 0), hij⟩, Mv.down HMw7.out (set6_below (by rw [HBE.out]; exact Nat.le_refl _) (.int .i64 3) (.bool false) (.int .i64 0) (.string t) (.slice none 0 0) (.slice none 0 0))⟩
            | none =>
              have HR : Hid (r = .error 300) := by show _ = _; rw [← HLE.out (by omega), HLF.out, if_neg Bool.false_ne_true, if_neg Bool.false_ne_true, if_neg Bool.false_ne_true, if_pos (by omega), hw]
              rw [hw] at HD
              have HW : Hid (∀ w', Dp w' g s i 0 → Calls Tryd.prog 38 #[.pointer (some ⟨g, 0, none⟩)] w' fun e w'' => (∃ j, e = .returned (.string ⟨#[]⟩) ∧ Dp w'' g s j 300 ∧ j ≤ s.size) ∧ Mv g w' w'') := HD
              clear hw HD hA h34
              go_wp2_with (go_at_call 38; (with_reducible refine (HW.out _ HPw6.out).mono ?_); rintro e w7 ⟨⟨j, rfl, hp_, hij⟩, hm_⟩; have HPw7 := hide hp_; have HBw7 := hide (HBw6.out.grown hm_ (by intro h_; injection h_ with h_; omega)); have HMw7 : Hid (Mv g w w7) := grown_trans HMw6.out hm_; have hzw7 : bb + 1 ≤ w7.heap.size := Nat.le_trans hzw6 hm_.size; clear hp_ hm_; obtain ⟨z0, z1, z2, z3, z4, z5⟩ := At.z6 HBw7.out.at0; have lz := HBw7.out.lt; have fz := HBw7.out.free)
              have hF := set6_blk HBw7.out (.int .i64 3) (.bool false) (.int .i64 0) (.string ⟨#[]⟩) (.slice none 0 0) (.slice none 0 0)
              clear z0 z1 z2 z3 z4 z5
              obtain ⟨c0, c1, c2, c3, c4, c5⟩ := At.z6 hF.at0
              unfold set6 at c0 c1 c2 c3 c4 c5
              refine bodyPost_ret (v := .agg #[.int .i64 3, .bool false, .int .i64 0, .string ⟨#[]⟩, .slice none 0 0, .slice none 0 0]) (by simp [results, Tryd.results25, go_sem, c0, c1, c2, c3, c4, c5]) rfl ?_
              exact ⟨by rw [HR.out]; exact ⟨.mk (3) false (0) ⟨#[]⟩ none 0 [] none 0 [], _, rfl, set6_far HPw7.out hgb (.int .i64 3) (.bool false) (.int .i64 0) (.string ⟨#[]⟩) (.slice none 0 0) (.slice none 0 0), hij, by decide⟩, Mv.down HMw7.out (set6_below (by rw [HBE.out]; exact Nat.le_refl _) (.int .i64 3) (.bool false) (.int .i64 0) (.string ⟨#[]⟩) (.slice none 0 0) (.slice none 0 0))⟩
          have e34 : ((c : Int) == 34) = false := beq_eq_false_iff_ne.2 (by omega)
          go_wp2_with fail
          go_quiet (fail)
          obtain ⟨w6, hw6⟩ : ∃ x, x = w5.drewN nq := ⟨_, rfl⟩
          have hsw6 : Step w5 w6 := by rw [hw6]; exact Step.of
          rw [← hw6]
          have HPw6 := hide (HPw5.out.fut (w' := w6))
          have HBw6 := hide (HBw5.out.fut (w' := w6))
          have HMw6 : Hid (Mv g w w6) := Mv.fut HMw5.out
          have hzw6 : bb + 1 ≤ w6.heap.size := by have := hsw6.size; omega
          clear hw6 q0 q1 q2 lq fq
          obtain ⟨q0, q1, q2⟩ := At.z3 HPw6.out.at0
          have lq := HPw6.out.lt; have fq := HPw6.out.free
          by_cases h91 : c = 91
          · have e91 : ((c : Int) == 91) = true := beq_iff_eq.2 (by omega)
            have HW := hide (HLI.out (by omega))
            clear hA h91 h34
            go_wp2_with fail
            go_quiet (fail)
            obtain ⟨w7, hw7⟩ : ∃ x, x = w6.drewN nq := ⟨_, rfl⟩
            have hsw7 : Step w6 w7 := by rw [hw7]; exact Step.of
            rw [← hw7]
            have HPw7 := hide (HPw6.out.fut (w' := w7))
            have HBw7 := hide (HBw6.out.fut (w' := w7))
            have HMw7 : Hid (Mv g w w7) := Mv.fut HMw6.out
            have hzw7 : bb + 1 ≤ w7.heap.size := by have := hsw7.size; omega
            clear hw7 q0 q1 q2 lq fq
            obtain ⟨q0, q1, q2⟩ := At.z3 HPw7.out.at0
            have lq := HPw7.out.lt; have fq := HPw7.out.free
            go_upto_region 13 with fail
            have HW2 : Hid (∀ w', Dp w' g s i 0 → Calls Tryd.prog 39 #[.pointer (some ⟨g, 0, none⟩), .int .i64 (dp + 1)] w' fun e w'' => (∃ (vk : Int) (vb : Bool) (vn : Int) (vs : ByteArray) (vA : Option Addr) (vc : Nat) (vl : List T) (vAK : Option Addr) (vcK : Nat) (vks : List ByteArray), e = .returned (.agg #[.int .i64 vk, .bool vb, .int .i64 vn, .string vs, .slice vA vl.length vc, .slice vAK vks.length vcK]) ∧ Hid (ValD w'.heap.size g s r (.returned (.agg #[.int .i64 vk, .bool vb, .int .i64 vn, .string vs, .slice vA vl.length vc, .slice vAK vks.length vcK])) w'')) ∧ Mv g w' w'') := fun w' hp => (HW.out w' hp).mono fun e w'' hh => ⟨val_cells hh.1, hh.2⟩
            clear HW
            go_wp2_with (go_at_call 39; (with_reducible refine (HW2.out _ HPw7.out).mono ?_); rintro e wA ⟨⟨vk, vb, vn, vs, vA, vc, vl, vAK, vcK, vks, rfl, HVD⟩, hmA⟩; have HMA := hide hmA; have HBA := hide (HBw7.out.grown hmA (by intro h_; injection h_ with h_; omega)); clear hmA; obtain ⟨z0, z1, z2, z3, z4, z5⟩ := At.z6 HBA.out.at0; have lz := HBA.out.lt; have fz := HBA.out.free)
            have hF := set6_blk HBA.out (.int .i64 vk) (.bool vb) (.int .i64 vn) (.string vs) (.slice vA vl.length vc) (.slice vAK vks.length vcK)
            clear z0 z1 z2 z3 z4 z5
            obtain ⟨c0, c1, c2, c3, c4, c5⟩ := At.z6 hF.at0
            have hB6 := set6_below (w := wA) (n := w.heap.size) (b := bb) (by rw [HBE.out]; exact Nat.le_refl _) (.int .i64 vk) (.bool vb) (.int .i64 vn) (.string vs) (.slice vA vl.length vc) (.slice vAK vks.length vcK)
            have hG6 := set6_grown wA bb (.int .i64 vk) (.bool vb) (.int .i64 vn) (.string vs) (.slice vA vl.length vc) (.slice vAK vks.length vcK)
            have hV6 := val_set hgb (by rw [HBE.out]; omega : w.heap.size ≤ w7.heap.size) (by omega : bb < w7.heap.size) HVD.out (.int .i64 vk) (.bool vb) (.int .i64 vn) (.string vs) (.slice vA vl.length vc) (.slice vAK vks.length vcK)
            obtain ⟨Y, hY⟩ : ∃ Y : World, Y = set6 wA bb (.int .i64 vk) (.bool vb) (.int .i64 vn) (.string vs) (.slice vA vl.length vc) (.slice vAK vks.length vcK) := ⟨_, rfl⟩
            rw [← hY] at hB6 hV6 c0 c1 c2 c3 c4 c5
            unfold set6 at hY
            rw [← hY]
            clear hY hG6
            refine bodyPost_ret (v := .agg #[.int .i64 vk, .bool vb, .int .i64 vn, .string vs, .slice vA vl.length vc, .slice vAK vks.length vcK]) (by simp [results, Tryd.results25, go_sem, c0, c1, c2, c3, c4, c5]) rfl ?_
            exact ⟨hV6, Mv.down (grown_trans HMw7.out HMA.out) hB6⟩
          have e91 : ((c : Int) == 91) = false := beq_eq_false_iff_ne.2 (by omega)
          go_wp2_with fail
          go_quiet (fail)
          obtain ⟨w7, hw7⟩ : ∃ x, x = w6.drewN nq := ⟨_, rfl⟩
          have hsw7 : Step w6 w7 := by rw [hw7]; exact Step.of
          rw [← hw7]
          have HPw7 := hide (HPw6.out.fut (w' := w7))
          have HBw7 := hide (HBw6.out.fut (w' := w7))
          have HMw7 : Hid (Mv g w w7) := Mv.fut HMw6.out
          have hzw7 : bb + 1 ≤ w7.heap.size := by have := hsw7.size; omega
          clear hw7 q0 q1 q2 lq fq
          obtain ⟨q0, q1, q2⟩ := At.z3 HPw7.out.at0
          have lq := HPw7.out.lt; have fq := HPw7.out.free
          by_cases h123 : c = 123
          · have e123 : ((c : Int) == 123) = true := beq_iff_eq.2 (by omega)
            have HW := hide (HOB.out (by omega))
            clear hA h91 h34 h123
            go_wp2_with fail
            go_quiet (fail)
            obtain ⟨w8, hw8⟩ : ∃ x, x = w7.drewN nq := ⟨_, rfl⟩
            have hsw8 : Step w7 w8 := by rw [hw8]; exact Step.of
            rw [← hw8]
            have HPw8 := hide (HPw7.out.fut (w' := w8))
            have HBw8 := hide (HBw7.out.fut (w' := w8))
            have HMw8 : Hid (Mv g w w8) := Mv.fut HMw7.out
            have hzw8 : bb + 1 ≤ w8.heap.size := by have := hsw8.size; omega
            clear hw8 q0 q1 q2 lq fq
            obtain ⟨q0, q1, q2⟩ := At.z3 HPw8.out.at0
            have lq := HPw8.out.lt; have fq := HPw8.out.free
            go_upto_region 15 with fail
            have HW2 : Hid (∀ w', Dp w' g s i 0 → Calls Tryd.prog 40 #[.pointer (some ⟨g, 0, none⟩), .int .i64 (dp + 1)] w' fun e w'' => (∃ (vk : Int) (vb : Bool) (vn : Int) (vs : ByteArray) (vA : Option Addr) (vc : Nat) (vl : List T) (vAK : Option Addr) (vcK : Nat) (vks : List ByteArray), e = .returned (.agg #[.int .i64 vk, .bool vb, .int .i64 vn, .string vs, .slice vA vl.length vc, .slice vAK vks.length vcK]) ∧ Hid (ValD w'.heap.size g s r (.returned (.agg #[.int .i64 vk, .bool vb, .int .i64 vn, .string vs, .slice vA vl.length vc, .slice vAK vks.length vcK])) w'')) ∧ Mv g w' w'') := fun w' hp => (HW.out w' hp).mono fun e w'' hh => ⟨val_cells hh.1, hh.2⟩
            clear HW
            go_wp2_with (go_at_call 40; (with_reducible refine (HW2.out _ HPw8.out).mono ?_); rintro e wA ⟨⟨vk, vb, vn, vs, vA, vc, vl, vAK, vcK, vks, rfl, HVD⟩, hmA⟩; have HMA := hide hmA; have HBA := hide (HBw8.out.grown hmA (by intro h_; injection h_ with h_; omega)); clear hmA; obtain ⟨z0, z1, z2, z3, z4, z5⟩ := At.z6 HBA.out.at0; have lz := HBA.out.lt; have fz := HBA.out.free)
            have hF := set6_blk HBA.out (.int .i64 vk) (.bool vb) (.int .i64 vn) (.string vs) (.slice vA vl.length vc) (.slice vAK vks.length vcK)
            clear z0 z1 z2 z3 z4 z5
            obtain ⟨c0, c1, c2, c3, c4, c5⟩ := At.z6 hF.at0
            have hB6 := set6_below (w := wA) (n := w.heap.size) (b := bb) (by rw [HBE.out]; exact Nat.le_refl _) (.int .i64 vk) (.bool vb) (.int .i64 vn) (.string vs) (.slice vA vl.length vc) (.slice vAK vks.length vcK)
            have hG6 := set6_grown wA bb (.int .i64 vk) (.bool vb) (.int .i64 vn) (.string vs) (.slice vA vl.length vc) (.slice vAK vks.length vcK)
            have hV6 := val_set hgb (by rw [HBE.out]; omega : w.heap.size ≤ w8.heap.size) (by omega : bb < w8.heap.size) HVD.out (.int .i64 vk) (.bool vb) (.int .i64 vn) (.string vs) (.slice vA vl.length vc) (.slice vAK vks.length vcK)
            obtain ⟨Y, hY⟩ : ∃ Y : World, Y = set6 wA bb (.int .i64 vk) (.bool vb) (.int .i64 vn) (.string vs) (.slice vA vl.length vc) (.slice vAK vks.length vcK) := ⟨_, rfl⟩
            rw [← hY] at hB6 hV6 c0 c1 c2 c3 c4 c5
            unfold set6 at hY
            rw [← hY]
            clear hY hG6
            refine bodyPost_ret (v := .agg #[.int .i64 vk, .bool vb, .int .i64 vn, .string vs, .slice vA vl.length vc, .slice vAK vks.length vcK]) (by simp [results, Tryd.results25, go_sem, c0, c1, c2, c3, c4, c5]) rfl ?_
            exact ⟨hV6, Mv.down (grown_trans HMw8.out HMA.out) hB6⟩
          have e123 : ((c : Int) == 123) = false := beq_eq_false_iff_ne.2 (by omega)
          go_wp2_with fail
          go_quiet (fail)
          obtain ⟨w8, hw8⟩ : ∃ x, x = w7.drewN nq := ⟨_, rfl⟩
          have hsw8 : Step w7 w8 := by rw [hw8]; exact Step.of
          rw [← hw8]
          have HPw8 := hide (HPw7.out.fut (w' := w8))
          have HBw8 := hide (HBw7.out.fut (w' := w8))
          have HMw8 : Hid (Mv g w w8) := Mv.fut HMw7.out
          have hzw8 : bb + 1 ≤ w8.heap.size := by have := hsw8.size; omega
          clear hw8 q0 q1 q2 lq fq
          obtain ⟨q0, q1, q2⟩ := At.z3 HPw8.out.at0
          have lq := HPw8.out.lt; have fq := HPw8.out.free
          have HRL : Hid (r = (match dnumP s i with | none => .error 300 | some (x, j) => .ok (.mk 2 false x ⟨#[]⟩ [] [], j))) := by show _ = _; rw [← HLE.out (by omega), HLF.out, if_neg Bool.false_ne_true, if_neg Bool.false_ne_true, if_neg Bool.false_ne_true, if_neg (by omega)]
          have HD := fun w' (hp : Dp w' g s i 0) => dnumber_any g s i w' hp hi hs
          have hnum : (((c : Int) == 45) = true) ∨ (((c : Int) == 45) = false ∧ (c : Int) ≥ 48 ∧ (c : Int) ≤ 57 ∧ decide ((c : Int) ≥ 48) = true) ∨ (c ≠ 45 ∧ isD (bA s i) = false ∧ ((c : Int) == 45) = false ∧ (¬ (c : Int) ≥ 48 ∧ (c : Int) < 48 ∧ decide ((c : Int) ≥ 48) = false ∧ decide (48 ≤ (c : Int)) = false ∧ decide (48 ≤ c) = false)) ∨ (c ≠ 45 ∧ isD (bA s i) = false ∧ ((c : Int) == 45) = false ∧ ((c : Int) ≥ 48 ∧ ¬ (c : Int) ≤ 57 ∧ 57 < (c : Int) ∧ decide ((c : Int) ≤ 57) = false ∧ decide (c ≤ 57) = false)) := by
            by_cases k1 : c = 45
            · exact .inl (beq_iff_eq.2 (by omega))
            · have k2 : ((c : Int) == 45) = false := beq_eq_false_iff_ne.2 (by omega)
              by_cases k3 : c < 48
              · exact .inr (.inr (.inl ⟨k1, by rw [hA]; simp [isD]; omega, k2, by omega, by omega, decide_eq_false (by omega), decide_eq_false (by omega), decide_eq_false (by omega)⟩))
              · by_cases k4 : c ≤ 57
                · exact .inr (.inl ⟨k2, by omega, by omega, decide_eq_true (by omega)⟩)
                · exact .inr (.inr (.inr ⟨k1, by rw [hA]; simp [isD]; omega, k2, by omega, by omega, by omega, decide_eq_false (by omega), decide_eq_false (by omega)⟩))
          have hA2 := hA
          clear hA h91 h34 h123
          rcases hnum with k1 | ⟨k1, k2, k3, k4⟩ | ⟨k0, kd, k1, k2, k3, k4, k5, k6⟩ | ⟨k0, kd, k1, k2, k3, k4, k5, k6⟩
          · clear hA2
            go_wp2_with fail
            go_quiet (fail)
            obtain ⟨w9, hw9⟩ : ∃ x, x = w8.drewN nq := ⟨_, rfl⟩
            have hsw9 : Step w8 w9 := by rw [hw9]; exact Step.of
            rw [← hw9]
            have HPw9 := hide (HPw8.out.fut (w' := w9))
            have HBw9 := hide (HBw8.out.fut (w' := w9))
            have HMw9 : Hid (Mv g w w9) := Mv.fut HMw8.out
            have hzw9 : bb + 1 ≤ w9.heap.size := by have := hsw9.size; omega
            clear hw9 q0 q1 q2 lq fq
            obtain ⟨q0, q1, q2⟩ := At.z3 HPw9.out.at0
            have lq := HPw9.out.lt; have fq := HPw9.out.free
            cases hw : dnumP s i with
            | some xj =>
              obtain ⟨x, j⟩ := xj
              have HR : Hid (r = .ok (.mk 2 false x ⟨#[]⟩ [] [], j)) := by show _ = _; rw [HRL.out, hw]
              rw [hw] at HD
              have HW : Hid (∀ w', Dp w' g s i 0 → Calls Tryd.prog 41 #[.pointer (some ⟨g, 0, none⟩)] w' fun e w'' => (e = .returned (.int .i64 x) ∧ Dp w'' g s j 0 ∧ j ≤ s.size) ∧ Mv g w' w'') := fun w' hp => (HD w' hp).mono fun e w'' hh => ⟨⟨hh.1.1, hh.1.2.1, hh.1.2.2.1⟩, hh.2⟩
              clear hw HD
              go_wp2_with (go_at_call 41; (with_reducible refine (HW.out _ HPw9.out).mono ?_); rintro e wA ⟨⟨rfl, hp_, hij⟩, hm_⟩; have HPwA := hide hp_; have HBwA := hide (HBw9.out.grown hm_ (by intro h_; injection h_ with h_; omega)); have HMwA : Hid (Mv g w wA) := grown_trans HMw9.out hm_; have hzwA : bb + 1 ≤ wA.heap.size := Nat.le_trans hzw9 hm_.size; clear hp_ hm_; obtain ⟨z0, z1, z2, z3, z4, z5⟩ := At.z6 HBwA.out.at0; have lz := HBwA.out.lt; have fz := HBwA.out.free)
              have hF := set6_blk HBwA.out (.int .i64 2) (.bool false) (.int .i64 x) (.string ⟨#[]⟩) (.slice none 0 0) (.slice none 0 0)
              clear z0 z1 z2 z3 z4 z5
              obtain ⟨c0, c1, c2, c3, c4, c5⟩ := At.z6 hF.at0
              unfold set6 at c0 c1 c2 c3 c4 c5
              refine bodyPost_ret (v := .agg #[.int .i64 2, .bool false, .int .i64 x, .string ⟨#[]⟩, .slice none 0 0, .slice none 0 0]) (by simp [results, Tryd.results25, go_sem, c0, c1, c2, c3, c4, c5]) rfl ?_
              exact ⟨by rw [HR.out]; exact ⟨.mk (2) false (x) ⟨#[]⟩ none 0 [] none 0 [], rfl, rfl, TAt.leaf _ _ _ _ _ _, set6_far HPwA.out hgb (.int .i64 2) (.bool false) (.int .i64 x) (.string ⟨#[]⟩) (.slice none 0 0) (.slice none 0 0), hij⟩, Mv.down HMwA.out (set6_below (by rw [HBE.out]; exact Nat.le_refl _) (.int .i64 2) (.bool false) (.int .i64 x) (.string ⟨#[]⟩) (.slice none 0 0) (.slice none 0 0))⟩
            | none =>
              have HR : Hid (r = .error 300) := by show _ = _; rw [HRL.out, hw]
              rw [hw] at HD
              have HW : Hid (∀ w', Dp w' g s i 0 → Calls Tryd.prog 41 #[.pointer (some ⟨g, 0, none⟩)] w' fun e w'' => (∃ v k, e = .returned (.int .i64 v) ∧ Dp w'' g s k 300 ∧ k ≤ s.size) ∧ Mv g w' w'') := HD
              clear hw HD
              go_wp2_with (go_at_call 41; (with_reducible refine (HW.out _ HPw9.out).mono ?_); rintro e wA ⟨⟨v, j, rfl, hp_, hij⟩, hm_⟩; have HPwA := hide hp_; have HBwA := hide (HBw9.out.grown hm_ (by intro h_; injection h_ with h_; omega)); have HMwA : Hid (Mv g w wA) := grown_trans HMw9.out hm_; have hzwA : bb + 1 ≤ wA.heap.size := Nat.le_trans hzw9 hm_.size; clear hp_ hm_; obtain ⟨z0, z1, z2, z3, z4, z5⟩ := At.z6 HBwA.out.at0; have lz := HBwA.out.lt; have fz := HBwA.out.free)
              have hF := set6_blk HBwA.out (.int .i64 2) (.bool false) (.int .i64 v) (.string ⟨#[]⟩) (.slice none 0 0) (.slice none 0 0)
              clear z0 z1 z2 z3 z4 z5
              obtain ⟨c0, c1, c2, c3, c4, c5⟩ := At.z6 hF.at0
              unfold set6 at c0 c1 c2 c3 c4 c5
              refine bodyPost_ret (v := .agg #[.int .i64 2, .bool false, .int .i64 v, .string ⟨#[]⟩, .slice none 0 0, .slice none 0 0]) (by simp [results, Tryd.results25, go_sem, c0, c1, c2, c3, c4, c5]) rfl ?_
              exact ⟨by rw [HR.out]; exact ⟨.mk (2) false (v) ⟨#[]⟩ none 0 [] none 0 [], _, rfl, set6_far HPwA.out hgb (.int .i64 2) (.bool false) (.int .i64 v) (.string ⟨#[]⟩) (.slice none 0 0) (.slice none 0 0), hij, by decide⟩, Mv.down HMwA.out (set6_below (by rw [HBE.out]; exact Nat.le_refl _) (.int .i64 2) (.bool false) (.int .i64 v) (.string ⟨#[]⟩) (.slice none 0 0) (.slice none 0 0))⟩
          · clear hA2
            go_wp2_with fail
            go_quiet (fail)
            obtain ⟨w9, hw9⟩ : ∃ x, x = w8.drewN nq := ⟨_, rfl⟩
            have hsw9 : Step w8 w9 := by rw [hw9]; exact Step.of
            rw [← hw9]
            have HPw9 := hide (HPw8.out.fut (w' := w9))
            have HBw9 := hide (HBw8.out.fut (w' := w9))
            have HMw9 : Hid (Mv g w w9) := Mv.fut HMw8.out
            have hzw9 : bb + 1 ≤ w9.heap.size := by have := hsw9.size; omega
            clear hw9 q0 q1 q2 lq fq
            obtain ⟨q0, q1, q2⟩ := At.z3 HPw9.out.at0
            have lq := HPw9.out.lt; have fq := HPw9.out.free
            cases hw : dnumP s i with
            | some xj =>
              obtain ⟨x, j⟩ := xj
              have HR : Hid (r = .ok (.mk 2 false x ⟨#[]⟩ [] [], j)) := by show _ = _; rw [HRL.out, hw]
              rw [hw] at HD
              have HW : Hid (∀ w', Dp w' g s i 0 → Calls Tryd.prog 41 #[.pointer (some ⟨g, 0, none⟩)] w' fun e w'' => (e = .returned (.int .i64 x) ∧ Dp w'' g s j 0 ∧ j ≤ s.size) ∧ Mv g w' w'') := fun w' hp => (HD w' hp).mono fun e w'' hh => ⟨⟨hh.1.1, hh.1.2.1, hh.1.2.2.1⟩, hh.2⟩
              clear hw HD
              go_wp2_with (go_at_call 41; (with_reducible refine (HW.out _ HPw9.out).mono ?_); rintro e wA ⟨⟨rfl, hp_, hij⟩, hm_⟩; have HPwA := hide hp_; have HBwA := hide (HBw9.out.grown hm_ (by intro h_; injection h_ with h_; omega)); have HMwA : Hid (Mv g w wA) := grown_trans HMw9.out hm_; have hzwA : bb + 1 ≤ wA.heap.size := Nat.le_trans hzw9 hm_.size; clear hp_ hm_; obtain ⟨z0, z1, z2, z3, z4, z5⟩ := At.z6 HBwA.out.at0; have lz := HBwA.out.lt; have fz := HBwA.out.free)
              have hF := set6_blk HBwA.out (.int .i64 2) (.bool false) (.int .i64 x) (.string ⟨#[]⟩) (.slice none 0 0) (.slice none 0 0)
              clear z0 z1 z2 z3 z4 z5
              obtain ⟨c0, c1, c2, c3, c4, c5⟩ := At.z6 hF.at0
              unfold set6 at c0 c1 c2 c3 c4 c5
              refine bodyPost_ret (v := .agg #[.int .i64 2, .bool false, .int .i64 x, .string ⟨#[]⟩, .slice none 0 0, .slice none 0 0]) (by simp [results, Tryd.results25, go_sem, c0, c1, c2, c3, c4, c5]) rfl ?_
              exact ⟨by rw [HR.out]; exact ⟨.mk (2) false (x) ⟨#[]⟩ none 0 [] none 0 [], rfl, rfl, TAt.leaf _ _ _ _ _ _, set6_far HPwA.out hgb (.int .i64 2) (.bool false) (.int .i64 x) (.string ⟨#[]⟩) (.slice none 0 0) (.slice none 0 0), hij⟩, Mv.down HMwA.out (set6_below (by rw [HBE.out]; exact Nat.le_refl _) (.int .i64 2) (.bool false) (.int .i64 x) (.string ⟨#[]⟩) (.slice none 0 0) (.slice none 0 0))⟩
            | none =>
              have HR : Hid (r = .error 300) := by show _ = _; rw [HRL.out, hw]
              rw [hw] at HD
              have HW : Hid (∀ w', Dp w' g s i 0 → Calls Tryd.prog 41 #[.pointer (some ⟨g, 0, none⟩)] w' fun e w'' => (∃ v k, e = .returned (.int .i64 v) ∧ Dp w'' g s k 300 ∧ k ≤ s.size) ∧ Mv g w' w'') := HD
              clear hw HD
              go_wp2_with (go_at_call 41; (with_reducible refine (HW.out _ HPw9.out).mono ?_); rintro e wA ⟨⟨v, j, rfl, hp_, hij⟩, hm_⟩; have HPwA := hide hp_; have HBwA := hide (HBw9.out.grown hm_ (by intro h_; injection h_ with h_; omega)); have HMwA : Hid (Mv g w wA) := grown_trans HMw9.out hm_; have hzwA : bb + 1 ≤ wA.heap.size := Nat.le_trans hzw9 hm_.size; clear hp_ hm_; obtain ⟨z0, z1, z2, z3, z4, z5⟩ := At.z6 HBwA.out.at0; have lz := HBwA.out.lt; have fz := HBwA.out.free)
              have hF := set6_blk HBwA.out (.int .i64 2) (.bool false) (.int .i64 v) (.string ⟨#[]⟩) (.slice none 0 0) (.slice none 0 0)
              clear z0 z1 z2 z3 z4 z5
              obtain ⟨c0, c1, c2, c3, c4, c5⟩ := At.z6 hF.at0
              unfold set6 at c0 c1 c2 c3 c4 c5
              refine bodyPost_ret (v := .agg #[.int .i64 2, .bool false, .int .i64 v, .string ⟨#[]⟩, .slice none 0 0, .slice none 0 0]) (by simp [results, Tryd.results25, go_sem, c0, c1, c2, c3, c4, c5]) rfl ?_
              exact ⟨by rw [HR.out]; exact ⟨.mk (2) false (v) ⟨#[]⟩ none 0 [] none 0 [], _, rfl, set6_far HPwA.out hgb (.int .i64 2) (.bool false) (.int .i64 v) (.string ⟨#[]⟩) (.slice none 0 0) (.slice none 0 0), hij, by decide⟩, Mv.down HMwA.out (set6_below (by rw [HBE.out]; exact Nat.le_refl _) (.int .i64 2) (.bool false) (.int .i64 v) (.string ⟨#[]⟩) (.slice none 0 0) (.slice none 0 0))⟩
          · have HR : Hid (r = .error 300) := by show _ = _; rw [HRL.out, dnum_not (by omega) kd]
            clear hA2 kd k0 HD
            go_wp2_with fail
            go_quiet (fail)
            obtain ⟨w9, hw9⟩ : ∃ x, x = w8.drewN nq := ⟨_, rfl⟩
            have hsw9 : Step w8 w9 := by rw [hw9]; exact Step.of
            rw [← hw9]
            have HPw9 := hide (HPw8.out.fut (w' := w9))
            have HBw9 := hide (HBw8.out.fut (w' := w9))
            have HMw9 : Hid (Mv g w w9) := Mv.fut HMw8.out
            have hzw9 : bb + 1 ≤ w9.heap.size := by have := hsw9.size; omega
            clear hw9 q0 q1 q2 lq fq
            obtain ⟨q0, q1, q2⟩ := At.z3 HPw9.out.at0
            have lq := HPw9.out.lt; have fq := HPw9.out.free
            have FL := hide (fun w' (hp : Dp w' g s i 0) => dfail_any g s i 300 w' hp)
            go_wp2_with (go_at_call 26; (with_reducible refine (FL.out _ HPw9.out).mono ?_); rintro e w3 ⟨rfl, hp_, hm_⟩; have HPw3 := hide hp_; have HBw3 := hide (HBw9.out.grown hm_ (by intro h_; injection h_ with h_; omega)); have HMw3 : Hid (Mv g w w3) := grown_trans HMw9.out hm_; have hzw3 : bb + 1 ≤ w3.heap.size := Nat.le_trans hzw9 hm_.size; clear hp_ hm_; obtain ⟨z0, z1, z2, z3, z4, z5⟩ := At.z6 HBw3.out.at0; have lz := HBw3.out.lt; have fz := HBw3.out.free)
            have hF := set6_blk HBw3.out (.int .i64 0) (.bool false) (.int .i64 0) (.string ⟨#[]⟩) (.slice none 0 0) (.slice none 0 0)
            clear z0 z1 z2 z3 z4 z5
            obtain ⟨c0, c1, c2, c3, c4, c5⟩ := At.z6 hF.at0
            unfold set6 at c0 c1 c2 c3 c4 c5
            refine bodyPost_ret (v := .agg #[.int .i64 0, .bool false, .int .i64 0, .string ⟨#[]⟩, .slice none 0 0, .slice none 0 0]) (by simp [results, Tryd.results25, go_sem, c0, c1, c2, c3, c4, c5]) rfl ?_
            exact ⟨by rw [HR.out]; exact ⟨.mk (0) false (0) ⟨#[]⟩ none 0 [] none 0 [], _, rfl, set6_far HPw3.out hgb (.int .i64 0) (.bool false) (.int .i64 0) (.string ⟨#[]⟩) (.slice none 0 0) (.slice none 0 0), hi, by decide⟩, Mv.down HMw3.out (set6_below (by rw [HBE.out]; exact Nat.le_refl _) (.int .i64 0) (.bool false) (.int .i64 0) (.string ⟨#[]⟩) (.slice none 0 0) (.slice none 0 0))⟩
          · have HR : Hid (r = .error 300) := by show _ = _; rw [HRL.out, dnum_not (by omega) kd]
            clear hA2 kd k0 HD
            go_wp2_with fail
            go_quiet (fail)
            obtain ⟨w9, hw9⟩ : ∃ x, x = w8.drewN nq := ⟨_, rfl⟩
            have hsw9 : Step w8 w9 := by rw [hw9]; exact Step.of
            rw [← hw9]
            have HPw9 := hide (HPw8.out.fut (w' := w9))
            have HBw9 := hide (HBw8.out.fut (w' := w9))
            have HMw9 : Hid (Mv g w w9) := Mv.fut HMw8.out
            have hzw9 : bb + 1 ≤ w9.heap.size := by have := hsw9.size; omega
            clear hw9 q0 q1 q2 lq fq
            obtain ⟨q0, q1, q2⟩ := At.z3 HPw9.out.at0
            have lq := HPw9.out.lt; have fq := HPw9.out.free
            have FL := hide (fun w' (hp : Dp w' g s i 0) => dfail_any g s i 300 w' hp)
            go_wp2_with (go_at_call 26; (with_reducible refine (FL.out _ HPw9.out).mono ?_); rintro e w3 ⟨rfl, hp_, hm_⟩; have HPw3 := hide hp_; have HBw3 := hide (HBw9.out.grown hm_ (by intro h_; injection h_ with h_; omega)); have HMw3 : Hid (Mv g w w3) := grown_trans HMw9.out hm_; have hzw3 : bb + 1 ≤ w3.heap.size := Nat.le_trans hzw9 hm_.size; clear hp_ hm_; obtain ⟨z0, z1, z2, z3, z4, z5⟩ := At.z6 HBw3.out.at0; have lz := HBw3.out.lt; have fz := HBw3.out.free)
            have hF := set6_blk HBw3.out (.int .i64 0) (.bool false) (.int .i64 0) (.string ⟨#[]⟩) (.slice none 0 0) (.slice none 0 0)
            clear z0 z1 z2 z3 z4 z5
            obtain ⟨c0, c1, c2, c3, c4, c5⟩ := At.z6 hF.at0
            unfold set6 at c0 c1 c2 c3 c4 c5
            refine bodyPost_ret (v := .agg #[.int .i64 0, .bool false, .int .i64 0, .string ⟨#[]⟩, .slice none 0 0, .slice none 0 0]) (by simp [results, Tryd.results25, go_sem, c0, c1, c2, c3, c4, c5]) rfl ?_
            exact ⟨by rw [HR.out]; exact ⟨.mk (0) false (0) ⟨#[]⟩ none 0 [] none 0 [], _, rfl, set6_far HPw3.out hgb (.int .i64 0) (.bool false) (.int .i64 0) (.string ⟨#[]⟩) (.slice none 0 0) (.slice none 0 0), hi, by decide⟩, Mv.down HMw3.out (set6_below (by rw [HBE.out]; exact Nat.le_refl _) (.int .i64 0) (.bool false) (.int .i64 0) (.string ⟨#[]⟩) (.slice none 0 0) (.slice none 0 0))⟩
  · have hie : i = s.size := by omega
    have HR : Hid (r = .error 300) := by
      show _ = _
      have h0 := bA_end (s := s) (i := i) (by omega)
      rw [← HLE.out (by omega), leafD, word_zero (by omega), word_zero (by omega), word_zero (by omega), if_neg Bool.false_ne_true, if_neg Bool.false_ne_true, if_neg Bool.false_ne_true, if_neg (by omega), dnum_not (by omega) (by rw [h0]; rfl)]
    have hkd : decide ((i : Int) ≥ (s.size : Int)) = true := decide_eq_true (by omega)
    have hkd2 : decide ((s.size : Int) ≤ (i : Int)) = true := decide_eq_true (by omega)
    have hkd3 : decide (s.size ≤ i) = true := decide_eq_true (by omega)
    have hkd4 : (s.size : Int) ≤ (i : Int) := by omega
    have hkd5 : (i : Int) ≥ (s.size : Int) := by omega
    go_wp2_with fail
    go_quiet (fail)
    obtain ⟨w2, hw2⟩ : ∃ x, x = W1.drewN nq := ⟨_, rfl⟩
    have hsw2 : Step W1 w2 := by rw [hw2]; exact Step.of
    rw [← hw2]
    have HPw2 := hide (HPW1.out.fut (w' := w2))
    have HBw2 := hide (HBW1.out.fut (w' := w2))
    have HMw2 : Hid (Mv g w w2) := Mv.fut HMW1.out
    have hzw2 : bb + 1 ≤ w2.heap.size := by have := hsw2.size; omega
    clear hw2 q0 q1 q2 lq fq
    obtain ⟨q0, q1, q2⟩ := At.z3 HPw2.out.at0
    have lq := HPw2.out.lt; have fq := HPw2.out.free
    have FL := hide (fun w' (hp : Dp w' g s i 0) => dfail_any g s i 300 w' hp)
    go_wp2_with (go_at_call 26; (with_reducible refine (FL.out _ HPw2.out).mono ?_); rintro e w3 ⟨rfl, hp_, hm_⟩; have HPw3 := hide hp_; have HBw3 := hide (HBw2.out.grown hm_ (by intro h_; injection h_ with h_; omega)); have HMw3 : Hid (Mv g w w3) := grown_trans HMw2.out hm_; have hzw3 : bb + 1 ≤ w3.heap.size := Nat.le_trans hzw2 hm_.size; clear hp_ hm_; obtain ⟨z0, z1, z2, z3, z4, z5⟩ := At.z6 HBw3.out.at0; have lz := HBw3.out.lt; have fz := HBw3.out.free)
    have hF := set6_blk HBw3.out (.int .i64 0) (.bool false) (.int .i64 0) (.string ⟨#[]⟩) (.slice none 0 0) (.slice none 0 0)
    clear z0 z1 z2 z3 z4 z5
    obtain ⟨c0, c1, c2, c3, c4, c5⟩ := At.z6 hF.at0
    unfold set6 at c0 c1 c2 c3 c4 c5
    refine bodyPost_ret (v := .agg #[.int .i64 0, .bool false, .int .i64 0, .string ⟨#[]⟩, .slice none 0 0, .slice none 0 0]) (by simp [results, Tryd.results25, go_sem, c0, c1, c2, c3, c4, c5]) rfl ?_
    exact ⟨by rw [HR.out]; exact ⟨.mk (0) false (0) ⟨#[]⟩ none 0 [] none 0 [], _, rfl, set6_far HPw3.out hgb (.int .i64 0) (.bool false) (.int .i64 0) (.string ⟨#[]⟩) (.slice none 0 0) (.slice none 0 0), hi, by decide⟩, Mv.down HMw3.out (set6_below (by rw [HBE.out]; exact Nat.le_refl _) (.int .i64 0) (.bool false) (.int .i64 0) (.string ⟨#[]⟩) (.slice none 0 0) (.slice none 0 0))⟩
end Go.Proofs.YtoibfefalflooaaDoor
