/-
  The program's Parse.
-/
import Derived.Test.YtoibfefalflooaaDoorJq
namespace Go.Proofs.YtoibfefalflooaaDoor
open Go.RowKit

/-- What Parse answers. -/
def ParseR (w : World) (p : J × Int) (e : Ending) (w' : World) : Prop :=
  ∃ t : T, e = .returned (.tuple #[.agg t.cells.toArray, .int .i64 p.2]) ∧ t.j = p.1 ∧ TAt w' (fun q => w.heap.size ≤ q) t ∧ Step w w'
set_option maxRecDepth 100000 in
theorem parse_long (s : ByteArray) (w : World) (hs : 65536 < s.size) (hm : s.size ≤ 9223372036854775807) : Calls Tryd.prog 10 #[.string s] w (ParseR w (parseP s)) := by
  have HP : Hid (parseP s = (J.zero, 302)) := by show _ = _; rw [parseP, if_pos hs]
  rw [HP.out]
  have h1 : (s.size : Int) > 65536 := by omega
  go_enter_defers Tryd.func10, Tryd.ntmps10
  go_wp2_with fail
  simp [bodyPostD, Leaves, results, Tryd.results10, go_sem]
  exact ⟨T.zero, rfl, rfl, TAt.zero _ _, Step.of⟩
set_option maxRecDepth 100000 in
theorem clr_any (pe po : Nat) (te to_ : TypeId) (x : Int) (x0 x1 x2 x3 x4 x5 : Value) (u : FrameMode) (w : World) (he : Blk w pe te [.int .i64 x]) (ho : Blk w po to_ [x0, x1, x2, x3, x4, x5]) :
    CallsD Tryd.prog 19 #[.pointer (some ⟨pe, 0, none⟩), .pointer (some ⟨po, 0, none⟩)] u w fun e u' w' => e = .returned (.tuple #[]) ∧ u' = u ∧ w' = if x = 0 then w else set6 w po (.int .i64 0) (.bool false) (.int .i64 0) (.string ⟨#[]⟩) (.slice none 0 0) (.slice none 0 0) := by
  have q0 := At.z1 he.at0
  have lq := he.lt
  obtain ⟨c0, c1, c2, c3, c4, c5⟩ := At.z6 ho.at0
  have lc := ho.lt
  have fc := ho.free
  clear he ho
  refine (callsD_of_wp (R := fun e w' => e = .returned (.tuple #[]) ∧ w' = if x = 0 then w else set6 w po (.int .i64 0) (.bool false) (.int .i64 0) (.string ⟨#[]⟩) (.slice none 0 0) (.slice none 0 0)) Tryd.func19 rfl ?_).mono (fun e u' w' h => ⟨h.2.1, h.1, h.2.2⟩)
  change Code.wp Tryd.prog _ _ { tmps := #[.pointer (some ⟨pe, 0, none⟩), .pointer (some ⟨po, 0, none⟩), undef, undef, undef], defers := [] } w
  by_cases hx : x = 0
  · subst hx
    go_wp2_with fail
    go_end0
    exact ⟨rfl, rfl⟩
  · have hxb : (x != 0) = true := bne_iff_ne.2 hx
    go_wp2_with fail
    go_end0
    exact ⟨rfl, rfl⟩

set_option maxRecDepth 100000 in
set_option maxHeartbeats 4000000 in
theorem parse_err (s : ByteArray) (w : World) (hs : s.size ≤ 65536) (ec : Int) (hec : ec ≠ 0) (hv : valP s 16 (whiteE s 0) = .error ec) : Calls Tryd.prog 10 #[.string s] w (ParseR w (J.zero, ec)) := by
  have h1 : ¬ (s.size : Int) > 65536 := by omega
  have hmf : ∀ (fn : Fn) (first cap : Array Value) (w : World), (Instr.makeFunc fn first cap).run Tryd.prog w = .ok (.func fn first cap) w := fun _ _ _ _ => rfl
  go_enter_defers Tryd.func10, Tryd.ntmps10
  go_upto_region 6 with fail
  obtain ⟨W, hW⟩ : ∃ x : World, x = ((w.alloc (.cells #[.int .i64 0, .bool false, .int .i64 0, .string ⟨#[]⟩, .slice none 0 0, .slice none 0 0] 25)).alloc (.cells #[.int .i64 0] 26)).alloc (.cells #[.string s, .int .i64 0] 53) := ⟨_, rfl⟩
  have HB : Hid (Blk W w.heap.size 25 zeroC) := by rw [hW]; exact ((Blk.new w zeroC 25).alloc _).alloc _
  have HE : Hid (Blk W (w.heap.size + 1) 26 [.int .i64 0]) := by rw [hW]; exact (Blk.new_at (by simp) [.int .i64 0] 26).alloc _
  have HPP : Hid (Pr W (w.heap.size + 1 + 1) s 0) := by rw [hW]; exact Blk.new_at (by simp) [.string s, .int .i64 0] 53
  have SW : Step w W := by rw [hW]; exact Step.of
  have WH := hide (fun w' (hp : Pr w' (w.heap.size + 1 + 1) s 0) => jwhite_any (w.heap.size + 1 + 1) s 0 w' hp (Nat.zero_le _) hs)
  have hwb := white_bd (s := s) (i := 0) (Nat.zero_le _)
  have VL := fun w' (hp : Pr w' (w.heap.size + 1 + 1) s (whiteE s 0)) => jvalue_any (w.heap.size + 1 + 1) s hs 16 (Nat.le_refl _) (whiteE s 0) w' hp hwb.2
  rw [hv] at VL
  have HVE : Hid (∀ w', Pr w' (w.heap.size + 1 + 1) s (whiteE s 0) → Calls Tryd.prog 22 #[.pointer (some ⟨w.heap.size + 1 + 1, 0, none⟩), .int .i64 0] w' fun e w'' => e = .panicked [{ v := fault ec, recovered := false }] ∧ Mv (w.heap.size + 1 + 1) w' w'') := fun w' hp => VL w' hp
  rw [← hW]
  clear hW VL hv
  go_wp2_with (first | (go_at_call 21; (with_reducible refine (WH.out _ HPP.out).mono ?_); rintro e w1 ⟨rfl, hp1, hm1⟩; have HP1 := hide hp1; have HM1 := hide hm1; clear hp1 hm1) | (go_at_call 22; (with_reducible refine (HVE.out _ HP1.out).mono ?_); rintro e w2 ⟨rfl, hm2⟩; have HM2 := hide (grown_trans HM1.out hm2); clear hm2))
  have E2 := HE.out.grown HM2.out (by intro e; injection e with e; omega)
  have B2 := HB.out.grown HM2.out (by intro e; injection e with e; omega)
  refine leaves_cons (f := 20) (args := #[.pointer (some ⟨w.heap.size + 1, 0, none⟩)]) (by simp) (by simp [go_sem]) ?_
  refine (catch_panicking (w.heap.size + 1) 26 0 ec [] _ E2).mono ?_
  rintro e u' w'' ⟨rfl, rfl, rfl⟩
  have E3 := (E2.set_ 0 (.int .i64 ec)).alloc (.cells #[.int .i64 ec] 72)
  have B3 := (B2.far (p := ⟨w.heap.size + 1, 0, none⟩) (by simp) (.int .i64 ec)).alloc (.cells #[.int .i64 ec] 72)
  refine leaves_cons (f := 19) (args := #[.pointer (some ⟨w.heap.size + 1, 0, none⟩), .pointer (some ⟨w.heap.size, 0, none⟩)]) (by simp [settle]) (by simp [go_sem]) ?_
  refine (clr_any (w.heap.size + 1) w.heap.size 26 25 ec _ _ _ _ _ _ _ _ E3 B3).mono ?_
  rintro e u' w'' ⟨rfl, rfl, rfl⟩
  rw [if_neg hec]
  have E4 := set6_far E3 (b := w.heap.size) (by omega) (.int .i64 0) (.bool false) (.int .i64 0) (.string ⟨#[]⟩) (.slice none 0 0) (.slice none 0 0)
  have B4 := set6_blk B3 (.int .i64 0) (.bool false) (.int .i64 0) (.string ⟨#[]⟩) (.slice none 0 0) (.slice none 0 0)
  have b2 : Below w.heap.size W w2 := ⟨HM2.out.os, HM2.out.tape, HM2.out.output, HM2.out.size, fun q hq => HM2.out.block q (Nat.lt_of_lt_of_le hq SW.size) (by intro e; injection e with e; omega)⟩
  have b3 := (SW.below.trans b2).setCell (p := ⟨w.heap.size + 1, 0, none⟩) (by simp) (.int .i64 ec)
  have b4 := b3.alloc b3.size (.cells #[.int .i64 ec] 72)
  have b5 := b4.trans (set6_below (Nat.le_refl w.heap.size) (.int .i64 0) (.bool false) (.int .i64 0) (.string ⟨#[]⟩) (.slice none 0 0) (.slice none 0 0))
  obtain ⟨F, hF⟩ : ∃ F : World, F = set6 ((w2.setCell ⟨w.heap.size + 1, 0, none⟩ (.int .i64 ec)).alloc (.cells #[.int .i64 ec] 72)) w.heap.size (.int .i64 0) (.bool false) (.int .i64 0) (.string ⟨#[]⟩) (.slice none 0 0) (.slice none 0 0) := ⟨_, rfl⟩
  rw [← hF]
  have E4 : Blk F (w.heap.size + 1) 26 [.int .i64 ec] := by rw [hF]; exact E4
  have B4 : Blk F w.heap.size 25 zeroC := by rw [hF]; exact B4
  have SF : Step w F := by rw [hF]; exact ⟨b5⟩
  have e0 := At.z1 E4.at0
  obtain ⟨c0, c1, c2, c3, c4, c5⟩ := At.z6 B4.at0
  simp [Leaves, settle, results, Tryd.results10, go_sem, e0, c0, c1, c2, c3, c4, c5]
  exact ⟨T.zero, rfl, rfl, TAt.zero _ _, SF⟩

set_option maxRecDepth 100000 in
set_option maxHeartbeats 4000000 in
theorem parse_rest (s : ByteArray) (w : World) (hs : s.size ≤ 65536) (j : J) (i : Nat) (hv : valP s 16 (whiteE s 0) = .ok (j, i)) (hne : whiteE s i ≠ s.size) : Calls Tryd.prog 10 #[.string s] w (ParseR w (J.zero, 300)) := by
  have h1 : ¬ (s.size : Int) > 65536 := by omega
  have hmf : ∀ (fn : Fn) (first cap : Array Value) (w : World), (Instr.makeFunc fn first cap).run Tryd.prog w = .ok (.func fn first cap) w := fun _ _ _ _ => rfl
  go_enter_defers Tryd.func10, Tryd.ntmps10
  go_upto_region 6 with fail
  obtain ⟨W, hW⟩ : ∃ x : World, x = ((w.alloc (.cells #[.int .i64 0, .bool false, .int .i64 0, .string ⟨#[]⟩, .slice none 0 0, .slice none 0 0] 25)).alloc (.cells #[.int .i64 0] 26)).alloc (.cells #[.string s, .int .i64 0] 53) := ⟨_, rfl⟩
  have HB : Hid (Blk W w.heap.size 25 zeroC) := by rw [hW]; exact ((Blk.new w zeroC 25).alloc _).alloc _
  have HE : Hid (Blk W (w.heap.size + 1) 26 [.int .i64 0]) := by rw [hW]; exact (Blk.new_at (by simp) [.int .i64 0] 26).alloc _
  have HPP : Hid (Pr W (w.heap.size + 1 + 1) s 0) := by rw [hW]; exact Blk.new_at (by simp) [.string s, .int .i64 0] 53
  have SW : Step w W := by rw [hW]; exact Step.of
  have WH := hide (fun w' (hp : Pr w' (w.heap.size + 1 + 1) s 0) => jwhite_any (w.heap.size + 1 + 1) s 0 w' hp (Nat.zero_le _) hs)
  have hwb := white_bd (s := s) (i := 0) (Nat.zero_le _)
  have VL := fun w' (hp : Pr w' (w.heap.size + 1 + 1) s (whiteE s 0)) => jvalue_any (w.heap.size + 1 + 1) s hs 16 (Nat.le_refl _) (whiteE s 0) w' hp hwb.2
  rw [hv] at VL
  have HVE : Hid (∀ w', Pr w' (w.heap.size + 1 + 1) s (whiteE s 0) → Calls Tryd.prog 22 #[.pointer (some ⟨w.heap.size + 1 + 1, 0, none⟩), .int .i64 0] w' fun e w'' => (∃ (vk : Int) (vb : Bool) (vn : Int) (vs : ByteArray) (vA : Option Addr) (vc vnl : Nat) (vl : List T) (vAK : Option Addr) (vcK vnk : Nat) (vks : List ByteArray), e = .returned (.agg #[.int .i64 vk, .bool vb, .int .i64 vn, .string vs, .slice vA vnl vc, .slice vAK vnk vcK]) ∧ Hid (vl.length = vnl ∧ vks.length = vnk) ∧ Hid (T.j (.mk vk vb vn vs vA vc vl vAK vcK vks) = j) ∧ TAt w'' (fun q => w'.heap.size ≤ q) (.mk vk vb vn vs vA vc vl vAK vcK vks) ∧ Pr w'' (w.heap.size + 1 + 1) s i ∧ i ≤ s.size) ∧ Mv (w.heap.size + 1 + 1) w' w'') := fun w' hp => by
    exact (VL w' hp).mono fun e w'' hh => by
      obtain ⟨⟨t, h1, h2, h3, h4, h5⟩, h6⟩ := hh
      cases t with
      | mk vk vb vn vs vA vc vl vAK vcK vks => exact ⟨⟨vk, vb, vn, vs, vA, vc, _, vl, vAK, vcK, _, vks, h1, ⟨rfl, rfl⟩, h2, h3, h4, h5⟩, h6⟩
  rw [← hW]
  clear hW VL hv
  go_upto_region 8 with (first | (go_at_call 21; (with_reducible refine (WH.out _ HPP.out).mono ?_); rintro e w1 ⟨rfl, hp1, hm1⟩; have HP1 := hide hp1; have HM1 := hide hm1; clear hp1 hm1) | (go_at_call 22; (with_reducible refine (HVE.out _ HP1.out).mono ?_); rintro e wv ⟨⟨vk, vb, vn, vs, vA, vc, vnl, vl, vAK, vcK, vnk, vks, rfl, HVL, HVJ, htv, hpv, hiv⟩, hmv⟩; have HPV := hide hpv; have HTV := hide htv; have HMV := hide (grown_trans HM1.out hmv); have hBV := HB.out.grown HMV.out (by intro e; injection e with e; omega); have HBV := hide hBV; obtain ⟨q0, q1, q2, q3, q4, q5⟩ := At.z6 hBV.at0; have lq := hBV.lt; have fq := hBV.free; clear hpv htv hmv hBV))
  obtain ⟨X, hX⟩ : ∃ X : World, X = set6 wv w.heap.size (.int .i64 vk) (.bool vb) (.int .i64 vn) (.string vs) (.slice vA vnl vc) (.slice vAK vnk vcK) := ⟨_, rfl⟩
  have HBX : Hid (Blk X w.heap.size 25 [.int .i64 vk, .bool vb, .int .i64 vn, .string vs, .slice vA vnl vc, .slice vAK vnk vcK]) := by rw [hX]; exact set6_blk HBV.out (.int .i64 vk) (.bool vb) (.int .i64 vn) (.string vs) (.slice vA vnl vc) (.slice vAK vnk vcK)
  have HEX : Hid (Blk X (w.heap.size + 1) 26 [.int .i64 0]) := by rw [hX]; exact set6_far (HE.out.grown HMV.out (by intro e; injection e with e; omega)) (by omega) (.int .i64 vk) (.bool vb) (.int .i64 vn) (.string vs) (.slice vA vnl vc) (.slice vAK vnk vcK)
  have HPX : Hid (Pr X (w.heap.size + 1 + 1) s i) := by rw [hX]; exact set6_far HPV.out (by omega) (.int .i64 vk) (.bool vb) (.int .i64 vn) (.string vs) (.slice vA vnl vc) (.slice vAK vnk vcK)
  have bX : Below w.heap.size w X := by
    rw [hX]
    exact (SW.below.trans ⟨HMV.out.os, HMV.out.tape, HMV.out.output, HMV.out.size, fun q hq => HMV.out.block q (Nat.lt_of_lt_of_le hq SW.size) (by intro e; injection e with e; omega)⟩).trans (set6_below (Nat.le_refl _) (.int .i64 vk) (.bool vb) (.int .i64 vn) (.string vs) (.slice vA vnl vc) (.slice vAK vnk vcK))
  unfold set6 at hX
  rw [← hX]
  clear hX q0 q1 q2 q3 q4 q5 lq fq
  have WI := hide (fun w' (hp : Pr w' (w.heap.size + 1 + 1) s i) => jwhite_any (w.heap.size + 1 + 1) s i w' hp hiv hs)
  obtain ⟨k, hk⟩ : ∃ k, whiteE s i = k := ⟨_, rfl⟩
  rw [hk] at WI hne
  have hkn : ((k : Int) != (s.size : Int)) = true := bne_iff_ne.2 (by omega)
  clear hk
  go_wp2_with (first | (go_at_call 21; (with_reducible refine (WI.out _ HPX.out).mono ?_); rintro e w2 ⟨rfl, hp2, hm2⟩; have HM2 := hide hm2; obtain ⟨q0, q1⟩ := At.z2 hp2.at0; have lq := hp2.lt; have fq := hp2.free; clear hp2 hm2) | (go_at_call 23; (with_reducible refine (bad_any _).mono ?_); rintro e w9 ⟨rfl, rfl⟩))
  have E2 := HEX.out.grown HM2.out (by intro e; injection e with e; omega)
  have B2 := HBX.out.grown HM2.out (by intro e; injection e with e; omega)
  refine leaves_cons (f := 20) (args := #[.pointer (some ⟨w.heap.size + 1, 0, none⟩)]) (by simp) (by simp [go_sem]) ?_
  refine (catch_panicking (w.heap.size + 1) 26 0 300 [] _ E2).mono ?_
  rintro e u' w'' ⟨rfl, rfl, rfl⟩
  have E3 := (E2.set_ 0 (.int .i64 300)).alloc (.cells #[.int .i64 300] 72)
  have B3 := (B2.far (p := ⟨w.heap.size + 1, 0, none⟩) (by simp) (.int .i64 300)).alloc (.cells #[.int .i64 300] 72)
  refine leaves_cons (f := 19) (args := #[.pointer (some ⟨w.heap.size + 1, 0, none⟩), .pointer (some ⟨w.heap.size, 0, none⟩)]) (by simp [settle]) (by simp [go_sem]) ?_
  refine (clr_any (w.heap.size + 1) w.heap.size 26 25 300 _ _ _ _ _ _ _ _ E3 B3).mono ?_
  rintro e u' w'' ⟨rfl, rfl, rfl⟩
  rw [if_neg (by decide)]
  have E4 := set6_far E3 (b := w.heap.size) (by omega) (.int .i64 0) (.bool false) (.int .i64 0) (.string ⟨#[]⟩) (.slice none 0 0) (.slice none 0 0)
  have B4 := set6_blk B3 (.int .i64 0) (.bool false) (.int .i64 0) (.string ⟨#[]⟩) (.slice none 0 0) (.slice none 0 0)
  have b2 : Below w.heap.size X w9 := ⟨HM2.out.os, HM2.out.tape, HM2.out.output, HM2.out.size, fun q hq => HM2.out.block q (Nat.lt_of_lt_of_le hq bX.size) (by intro e; injection e with e; omega)⟩
  have b3 := (bX.trans b2).setCell (p := ⟨w.heap.size + 1, 0, none⟩) (by simp) (.int .i64 300)
  have b4 := b3.alloc b3.size (.cells #[.int .i64 300] 72)
  have b5 := b4.trans (set6_below (Nat.le_refl w.heap.size) (.int .i64 0) (.bool false) (.int .i64 0) (.string ⟨#[]⟩) (.slice none 0 0) (.slice none 0 0))
  obtain ⟨F, hF⟩ : ∃ F : World, F = set6 ((w9.setCell ⟨w.heap.size + 1, 0, none⟩ (.int .i64 300)).alloc (.cells #[.int .i64 300] 72)) w.heap.size (.int .i64 0) (.bool false) (.int .i64 0) (.string ⟨#[]⟩) (.slice none 0 0) (.slice none 0 0) := ⟨_, rfl⟩
  rw [← hF]
  have E4 : Blk F (w.heap.size + 1) 26 [.int .i64 300] := by rw [hF]; exact E4
  have B4 : Blk F w.heap.size 25 zeroC := by rw [hF]; exact B4
  have SF : Step w F := by rw [hF]; exact ⟨b5⟩
  have e0 := At.z1 E4.at0
  obtain ⟨c0, c1, c2, c3, c4, c5⟩ := At.z6 B4.at0
  simp [Leaves, settle, results, Tryd.results10, go_sem, e0, c0, c1, c2, c3, c4, c5]
  exact ⟨T.zero, rfl, rfl, TAt.zero _ _, SF⟩

set_option maxRecDepth 100000 in
set_option maxHeartbeats 4000000 in
theorem parse_ok (s : ByteArray) (w : World) (hs : s.size ≤ 65536) (j : J) (i : Nat) (hv : valP s 16 (whiteE s 0) = .ok (j, i)) (hne : whiteE s i = s.size) : Calls Tryd.prog 10 #[.string s] w (ParseR w (j, 0)) := by
  have h1 : ¬ (s.size : Int) > 65536 := by omega
  have hmf : ∀ (fn : Fn) (first cap : Array Value) (w : World), (Instr.makeFunc fn first cap).run Tryd.prog w = .ok (.func fn first cap) w := fun _ _ _ _ => rfl
  go_enter_defers Tryd.func10, Tryd.ntmps10
  go_upto_region 6 with fail
  obtain ⟨W, hW⟩ : ∃ x : World, x = ((w.alloc (.cells #[.int .i64 0, .bool false, .int .i64 0, .string ⟨#[]⟩, .slice none 0 0, .slice none 0 0] 25)).alloc (.cells #[.int .i64 0] 26)).alloc (.cells #[.string s, .int .i64 0] 53) := ⟨_, rfl⟩
  have HB : Hid (Blk W w.heap.size 25 zeroC) := by rw [hW]; exact ((Blk.new w zeroC 25).alloc _).alloc _
  have HE : Hid (Blk W (w.heap.size + 1) 26 [.int .i64 0]) := by rw [hW]; exact (Blk.new_at (by simp) [.int .i64 0] 26).alloc _
  have HPP : Hid (Pr W (w.heap.size + 1 + 1) s 0) := by rw [hW]; exact Blk.new_at (by simp) [.string s, .int .i64 0] 53
  have SW : Step w W := by rw [hW]; exact Step.of
  have WH := hide (fun w' (hp : Pr w' (w.heap.size + 1 + 1) s 0) => jwhite_any (w.heap.size + 1 + 1) s 0 w' hp (Nat.zero_le _) hs)
  have hwb := white_bd (s := s) (i := 0) (Nat.zero_le _)
  have VL := fun w' (hp : Pr w' (w.heap.size + 1 + 1) s (whiteE s 0)) => jvalue_any (w.heap.size + 1 + 1) s hs 16 (Nat.le_refl _) (whiteE s 0) w' hp hwb.2
  rw [hv] at VL
  have HVE : Hid (∀ w', Pr w' (w.heap.size + 1 + 1) s (whiteE s 0) → Calls Tryd.prog 22 #[.pointer (some ⟨w.heap.size + 1 + 1, 0, none⟩), .int .i64 0] w' fun e w'' => (∃ (vk : Int) (vb : Bool) (vn : Int) (vs : ByteArray) (vA : Option Addr) (vc vnl : Nat) (vl : List T) (vAK : Option Addr) (vcK vnk : Nat) (vks : List ByteArray), e = .returned (.agg #[.int .i64 vk, .bool vb, .int .i64 vn, .string vs, .slice vA vnl vc, .slice vAK vnk vcK]) ∧ Hid (vl.length = vnl ∧ vks.length = vnk) ∧ Hid (T.j (.mk vk vb vn vs vA vc vl vAK vcK vks) = j) ∧ TAt w'' (fun q => w'.heap.size ≤ q) (.mk vk vb vn vs vA vc vl vAK vcK vks) ∧ Pr w'' (w.heap.size + 1 + 1) s i ∧ i ≤ s.size) ∧ Mv (w.heap.size + 1 + 1) w' w'') := fun w' hp => by
    exact (VL w' hp).mono fun e w'' hh => by
      obtain ⟨⟨t, h1, h2, h3, h4, h5⟩, h6⟩ := hh
      cases t with
      | mk vk vb vn vs vA vc vl vAK vcK vks => exact ⟨⟨vk, vb, vn, vs, vA, vc, _, vl, vAK, vcK, _, vks, h1, ⟨rfl, rfl⟩, h2, h3, h4, h5⟩, h6⟩
  rw [← hW]
  clear hW VL hv
  go_upto_region 8 with (first | (go_at_call 21; (with_reducible refine (WH.out _ HPP.out).mono ?_); rintro e w1 ⟨rfl, hp1, hm1⟩; have HP1 := hide hp1; have HM1 := hide hm1; clear hp1 hm1) | (go_at_call 22; (with_reducible refine (HVE.out _ HP1.out).mono ?_); rintro e wv ⟨⟨vk, vb, vn, vs, vA, vc, vnl, vl, vAK, vcK, vnk, vks, rfl, HVL, HVJ, htv, hpv, hiv⟩, hmv⟩; have HPV := hide hpv; have HTV := hide htv; have HMV := hide (grown_trans HM1.out hmv); have hBV := HB.out.grown HMV.out (by intro e; injection e with e; omega); have HBV := hide hBV; obtain ⟨q0, q1, q2, q3, q4, q5⟩ := At.z6 hBV.at0; have lq := hBV.lt; have fq := hBV.free; clear hpv htv hmv hBV))
  obtain ⟨X, hX⟩ : ∃ X : World, X = set6 wv w.heap.size (.int .i64 vk) (.bool vb) (.int .i64 vn) (.string vs) (.slice vA vnl vc) (.slice vAK vnk vcK) := ⟨_, rfl⟩
  have HBX : Hid (Blk X w.heap.size 25 [.int .i64 vk, .bool vb, .int .i64 vn, .string vs, .slice vA vnl vc, .slice vAK vnk vcK]) := by rw [hX]; exact set6_blk HBV.out (.int .i64 vk) (.bool vb) (.int .i64 vn) (.string vs) (.slice vA vnl vc) (.slice vAK vnk vcK)
  have HEX : Hid (Blk X (w.heap.size + 1) 26 [.int .i64 0]) := by rw [hX]; exact set6_far (HE.out.grown HMV.out (by intro e; injection e with e; omega)) (by omega) (.int .i64 vk) (.bool vb) (.int .i64 vn) (.string vs) (.slice vA vnl vc) (.slice vAK vnk vcK)
  have HPX : Hid (Pr X (w.heap.size + 1 + 1) s i) := by rw [hX]; exact set6_far HPV.out (by omega) (.int .i64 vk) (.bool vb) (.int .i64 vn) (.string vs) (.slice vA vnl vc) (.slice vAK vnk vcK)
  have HTX : Hid (TAt X (fun q => w1.heap.size ≤ q) (.mk vk vb vn vs vA vc vl vAK vcK vks)) := by rw [hX]; exact TAt.grown (set6_grown wv w.heap.size (.int .i64 vk) (.bool vb) (.int .i64 vn) (.string vs) (.slice vA vnl vc) (.slice vAK vnk vcK)) (fun q hq e2 => by injection e2 with e2; have := HPP.out.lt; have := HM1.out.size; omega) HTV.out
  have bX : Below w.heap.size w X := by
    rw [hX]
    exact (SW.below.trans ⟨HMV.out.os, HMV.out.tape, HMV.out.output, HMV.out.size, fun q hq => HMV.out.block q (Nat.lt_of_lt_of_le hq SW.size) (by intro e; injection e with e; omega)⟩).trans (set6_below (Nat.le_refl _) (.int .i64 vk) (.bool vb) (.int .i64 vn) (.string vs) (.slice vA vnl vc) (.slice vAK vnk vcK))
  unfold set6 at hX
  rw [← hX]
  clear hX q0 q1 q2 q3 q4 q5 lq fq
  have WI := hide (fun w' (hp : Pr w' (w.heap.size + 1 + 1) s i) => jwhite_any (w.heap.size + 1 + 1) s i w' hp hiv hs)
  obtain ⟨k, hk⟩ : ∃ k, whiteE s i = k := ⟨_, rfl⟩
  rw [hk] at WI hne
  have hkn : ((k : Int) != (s.size : Int)) = false := by rw [hne]; exact bne_self_eq_false _
  clear hk
  go_wp2_with (first | (go_at_call 21; (with_reducible refine (WI.out _ HPX.out).mono ?_); rintro e w2 ⟨rfl, hp2, hm2⟩; have HM2 := hide hm2; obtain ⟨q0, q1⟩ := At.z2 hp2.at0; have lq := hp2.lt; have fq := hp2.free; have hb9 := HBX.out.grown hm2 (by intro e; injection e with e; omega); have HB9 := hide hb9; obtain ⟨c0, c1, c2, c3, c4, c5⟩ := At.z6 hb9.at0; have lc := hb9.lt; have fc := hb9.free; have he9 := HEX.out.grown hm2 (by intro e; injection e with e; omega); have HE9 := hide he9; have e0 := At.z1 he9.at0; have le := he9.lt; have fe := he9.free; clear hp2 hm2 hb9 he9) | (go_at_call 23; (with_reducible refine (bad_any _).mono ?_); rintro e w9 ⟨rfl, rfl⟩))
  have T2 := TAt.grown HM2.out (fun q hq e2 => by injection e2 with e2; have := HPP.out.lt; have := HM1.out.size; omega) HTX.out
  have T3 := TAt.grown (set6_grown w2 w.heap.size (.int .i64 vk) (.bool vb) (.int .i64 vn) (.string vs) (.slice vA vnl vc) (.slice vAK vnk vcK)) (fun q hq e2 => by injection e2 with e2; have := HPP.out.lt; have := HM1.out.size; omega) T2
  have T4 := TAt.grown (grown_setCell (set6 w2 w.heap.size (.int .i64 vk) (.bool vb) (.int .i64 vn) (.string vs) (.slice vA vnl vc) (.slice vAK vnk vcK)) (w.heap.size + 1) 0 (.int .i64 0)) (fun q hq e2 => by injection e2 with e2; have := HPP.out.lt; have := HM1.out.size; omega) T3
  have T5 := TAt.weak (ok' := fun q => w.heap.size ≤ q) (fun q hq => by have := HPP.out.lt; have := HM1.out.size; omega) T4
  have B4 := (set6_blk HB9.out (.int .i64 vk) (.bool vb) (.int .i64 vn) (.string vs) (.slice vA vnl vc) (.slice vAK vnk vcK)).far (p := ⟨w.heap.size + 1, 0, none⟩) (by simp) (.int .i64 0)
  have E4 := (set6_far HE9.out (b := w.heap.size) (by omega) (.int .i64 vk) (.bool vb) (.int .i64 vn) (.string vs) (.slice vA vnl vc) (.slice vAK vnk vcK)).set_ 0 (.int .i64 0)
  have b2 : Below w.heap.size X w2 := ⟨HM2.out.os, HM2.out.tape, HM2.out.output, HM2.out.size, fun q hq => HM2.out.block q (Nat.lt_of_lt_of_le hq bX.size) (by intro e; injection e with e; omega)⟩
  have b5 := ((bX.trans b2).trans (set6_below (Nat.le_refl w.heap.size) (.int .i64 vk) (.bool vb) (.int .i64 vn) (.string vs) (.slice vA vnl vc) (.slice vAK vnk vcK))).setCell (p := ⟨w.heap.size + 1, 0, none⟩) (by simp) (.int .i64 0)
  obtain ⟨F, hF⟩ : ∃ F : World, F = (set6 w2 w.heap.size (.int .i64 vk) (.bool vb) (.int .i64 vn) (.string vs) (.slice vA vnl vc) (.slice vAK vnk vcK)).setCell ⟨w.heap.size + 1, 0, none⟩ (.int .i64 0) := ⟨_, rfl⟩
  rw [← hF] at B4 E4 T5 b5
  unfold set6 at hF
  rw [← hF]
  clear q0 q1 lq fq c0 c1 c2 c3 c4 c5 lc fc e0 le fe
  refine leaves_cons (f := 20) (args := #[.pointer (some ⟨w.heap.size + 1, 0, none⟩)]) (by simp) (by simp [go_sem]) ?_
  refine (catch_idle _ _).mono ?_
  rintro e u' w'' ⟨rfl, rfl, rfl⟩
  refine leaves_cons (f := 19) (args := #[.pointer (some ⟨w.heap.size + 1, 0, none⟩), .pointer (some ⟨w.heap.size, 0, none⟩)]) (by simp [settle]) (by simp [go_sem]) ?_
  refine (clr_any (w.heap.size + 1) w.heap.size 26 25 0 _ _ _ _ _ _ _ _ E4 B4).mono ?_
  rintro e u' w'' ⟨rfl, rfl, rfl⟩
  have e0 := At.z1 E4.at0
  obtain ⟨c0, c1, c2, c3, c4, c5⟩ := At.z6 B4.at0
  simp [Leaves, settle, results, Tryd.results10, go_sem, e0, c0, c1, c2, c3, c4, c5]
  exact ⟨(.mk vk vb vn vs vA vc vl vAK vcK vks), by rw [T.cells, HVL.out.1, HVL.out.2], HVJ.out, T5, ⟨b5⟩⟩
end Go.Proofs.YtoibfefalflooaaDoor
