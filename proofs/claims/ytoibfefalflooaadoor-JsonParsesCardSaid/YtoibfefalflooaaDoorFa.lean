/-
  The document's Parse.
-/
import Derived.Test.YtoibfefalflooaaDoorF9
namespace Go.Proofs.YtoibfefalflooaaDoor
open Go.RowKit

def ParseD (w : World) (p : J × Int) (e : Ending) (w' : World) : Prop := ∃ t : T, e = .returned (.tuple #[.agg t.cells.toArray, .int .i64 p.2]) ∧ t.j = p.1 ∧ TAt w' (fun q => w.heap.size ≤ q) t ∧ Step w w'
theorem pd_zero {w w' : World} {c : Int} [h : Fut w w'] : ParseD w (J.zero, c) (.returned (.tuple #[.agg #[.int .i64 0, .bool false, .int .i64 0, .string ⟨#[]⟩, .slice none 0 0, .slice none 0 0], .int .i64 c])) w' := ⟨T.zero, rfl, rfl, TAt.zero _ _, ⟨h.below⟩⟩
set_option maxRecDepth 100000 in
set_option maxHeartbeats 8000000 in
theorem dparse_long (s : ByteArray) (w : World) (hs : 65536 < s.size) (hm : s.size ≤ 9223372036854775807) : Calls Tryd.prog 11 #[.string s] w (ParseD w (parseP s)) := by
  rw [show parseP s = (J.zero, 302) by rw [parseP, if_pos hs]]
  have hl : (s.size : Int) > 65536 := by omega
  have HZ := hide (Blk.new w zeroC 25)
  have SW : Step w (w.alloc (.cells #[.int .i64 0, .bool false, .int .i64 0, .string ⟨#[]⟩, .slice none 0 0, .slice none 0 0] 25)) := Step.of
  obtain ⟨W, hW⟩ : ∃ x : World, x = w.alloc (.cells #[.int .i64 0, .bool false, .int .i64 0, .string ⟨#[]⟩, .slice none 0 0, .slice none 0 0] 25) := ⟨_, rfl⟩
  have HZ : Hid (Blk W w.heap.size 25 zeroC) := by rw [hW]; exact Blk.new w zeroC 25
  rw [← hW] at SW
  go_enter Tryd.func11, Tryd.ntmps11
  go_upto_region 1 with fail
  rw [← hW]
  clear hW
  obtain ⟨bb, hbb⟩ : ∃ n, w.heap.size = n := ⟨_, rfl⟩
  rw [hbb] at HZ
  rw [hbb]
  obtain ⟨z0, z1, z2, z3, z4, z5⟩ := At.z6 HZ.out.at0
  have lz := HZ.out.lt
  have fz := HZ.out.free
  go_wp2_with fail
  have hF := set6_blk HZ.out (.int .i64 0) (.bool false) (.int .i64 0) (.string ⟨#[]⟩) (.slice none 0 0) (.slice none 0 0)
  obtain ⟨c0, c1, c2, c3, c4, c5⟩ := At.z6 hF.at0
  have b6 := set6_below (w := W) (n := w.heap.size) (b := bb) (by rw [hbb]; exact Nat.le_refl _) (.int .i64 0) (.bool false) (.int .i64 0) (.string ⟨#[]⟩) (.slice none 0 0) (.slice none 0 0)
  obtain ⟨Y, hY⟩ : ∃ Y : World, Y = set6 W bb (.int .i64 0) (.bool false) (.int .i64 0) (.string ⟨#[]⟩) (.slice none 0 0) (.slice none 0 0) := ⟨_, rfl⟩
  rw [← hY] at b6 c0 c1 c2 c3 c4 c5
  unfold set6 at hY
  rw [← hY]
  clear hY hF
  have hst : Step w Y := ⟨SW.below.trans b6⟩
  refine bodyPost_ret (v := .tuple #[.agg #[.int .i64 0, .bool false, .int .i64 0, .string ⟨#[]⟩, .slice none 0 0, .slice none 0 0], .int .i64 302]) (by simp [results, Tryd.results11, go_sem, c0, c1, c2, c3, c4, c5]) rfl ?_
  exact pd_zero
theorem keep_drew {w : World} {p : Addr} {v : Option Value} (h : w.cell? p = v) : w.drew.cell? p = v := h
theorem step_mv {w w1 w2 : World} {g : Nat} (h1 : Below w.heap.size w w1) (hm : Mv g w1 w2) (hg : w.heap.size ≤ g) : Below w.heap.size w w2 :=
  h1.trans ⟨hm.os, hm.tape, hm.output, hm.size, fun q hq => hm.block q (by have := h1.size; omega) (by intro e; injection e with e; omega)⟩
set_option maxRecDepth 100000 in
set_option maxHeartbeats 8000000 in
theorem dparse_err (s : ByteArray) (w : World) (hs : s.size ≤ 65536) (ec : Int) (hv : valD s 16 (whiteE s 0) = .error ec) : Calls Tryd.prog 11 #[.string s] w (ParseD w (J.zero, ec)) := by
  have hl : ¬ (s.size : Int) > 65536 := by omega
  obtain ⟨W0, hW0⟩ : ∃ x : World, x = w.alloc (.cells #[.int .i64 0, .bool false, .int .i64 0, .string ⟨#[]⟩, .slice none 0 0, .slice none 0 0] 25) := ⟨_, rfl⟩
  obtain ⟨W, hW⟩ : ∃ x : World, x = W0.alloc (.cells #[.string s, .int .i64 0, .int .i64 0] 57) := ⟨_, rfl⟩
  have hz0 : W0.heap.size = w.heap.size + 1 := by rw [hW0]; simp
  have HZ0 : Hid (Blk W w.heap.size 25 zeroC) := by rw [hW, hW0]; exact (Blk.new w zeroC 25).alloc _
  have HP0 : Hid (Dp W (w.heap.size + 1) s 0 0) := by rw [hW]; exact Blk.new_at hz0 [.string s, .int .i64 0, .int .i64 0] 57
  have hzW : W.heap.size = w.heap.size + 1 + 1 := by rw [hW]; simp [hz0]
  have HB0 : Hid (Below w.heap.size w W) := by rw [hW, hW0]; exact (Step.of : Step w ((w.alloc (.cells #[.int .i64 0, .bool false, .int .i64 0, .string ⟨#[]⟩, .slice none 0 0, .slice none 0 0] 25)).alloc (.cells #[.string s, .int .i64 0, .int .i64 0] 57))).below
  obtain ⟨bb, hbb⟩ : ∃ n, w.heap.size = n := ⟨_, rfl⟩
  obtain ⟨g, hg⟩ : ∃ n, w.heap.size + 1 = n := ⟨_, rfl⟩
  rw [hg] at HP0 hzW
  rw [hbb] at HZ0
  have hgb : g = bb + 1 := by omega
  have WH := hide (fun (k : Nat) (cd : Int) (hk : k ≤ s.size) w' (hp : Dp w' g s k cd) => dwhite_any g s k cd w' hp hk hs)
  have FL := hide (fun (k : Nat) w' (hp : Dp w' g s k 0) => dfail_any g s k 300 w' hp)
  obtain ⟨hw0, hw1⟩ := white_bd (s := s) (i := 0) (Nat.zero_le _)
  have HVV : ∀ w', Dp w' g s (whiteE s 0) 0 → Calls Tryd.prog 25 #[.pointer (some ⟨g, 0, none⟩), .int .i64 0] w' fun e w'' => (∃ (vk : Int) (vb : Bool) (vn : Int) (vs : ByteArray) (vA : Option Addr) (vc vnl : Nat) (vl : List T) (vAK : Option Addr) (vcK vnk : Nat) (vks : List ByteArray), e = .returned (.agg #[.int .i64 vk, .bool vb, .int .i64 vn, .string vs, .slice vA vnl vc, .slice vAK vnk vcK]) ∧ Hid (vl.length = vnl ∧ vks.length = vnk) ∧ ValC w'.heap.size g s (valD s 16 (whiteE s 0)) w'' (T.mk vk vb vn vs vA vc vl vAK vcK vks)) ∧ Mv g w' w'' := fun w' hp => (dvalue_any g s hs 16 (Nat.le_refl _) _ w' hp hw1).mono fun e w'' hh => ⟨vald_cells hh.1, hh.2⟩
  rw [hv] at HVV
  obtain ⟨k1, hk1⟩ : ∃ k, whiteE s 0 = k := ⟨_, rfl⟩
  rw [hk1] at HVV hw1
  have HK1 := hide hk1
  have HVV : Hid (∀ w', Dp w' g s k1 0 → Calls Tryd.prog 25 #[.pointer (some ⟨g, 0, none⟩), .int .i64 0] w' fun e w'' => (∃ (vk : Int) (vb : Bool) (vn : Int) (vs : ByteArray) (vA : Option Addr) (vc vnl : Nat) (vl : List T) (vAK : Option Addr) (vcK vnk : Nat) (vks : List ByteArray), e = .returned (.agg #[.int .i64 vk, .bool vb, .int .i64 vn, .string vs, .slice vA vnl vc, .slice vAK vnk vcK]) ∧ Hid (vl.length = vnl ∧ vks.length = vnk) ∧ (∃ i, Dp w'' g s i ec ∧ i ≤ s.size ∧ ec ≠ 0)) ∧ Mv g w' w'') := HVV
  have HBE := hide hbb
  have HGE := hide hg
  have HZW := hide hzW
  have HGB := hide hgb
  clear hv hk1 hw0 hbb hg hz0 hzW hgb
  go_enter Tryd.func11, Tryd.ntmps11
  go_upto_region 4 with fail
  rw [← hW0]
  rw [← hW]
  clear hW0 hW
  rw [HGE.out]
  rw [HBE.out]
  have hb1 : w.heap.size ≤ bb := Nat.le_of_eq HBE.out
  have hb2 : bb ≤ w.heap.size := Nat.le_of_eq HBE.out.symm
  have hg1 : g ≤ bb + 1 := Nat.le_of_eq HGB.out
  have hg2 : bb + 1 ≤ g := Nat.le_of_eq HGB.out.symm
  have hzW : g + 1 ≤ W.heap.size := Nat.le_of_eq HZW.out.symm
  go_upto_region 6 with (first | (go_at_call 24; go_loud (with_reducible refine (WH.out 0 0 (Nat.zero_le _) _ HP0.out).mono ?_); rintro e w1 ⟨rfl, hp0, hm_⟩; have hp_ := hp0; rw [HK1.out] at hp_; have HP1 := hide hp_; have HM1 := hide hm_; clear hp_ hp0 hm_) | (go_at_call 25; go_loud (with_reducible refine (HVV.out _ HP1.out).mono ?_); rintro e w5 ⟨⟨vk, vb, vn, vs, vA, vc, vnl, vl, vAK, vcK, vnk, vks, rfl, HVL, iE, hp_, hiE, hecn⟩, hm_⟩; have HP5 := hide hp_; have HM5 := hide (grown_trans HM1.out hm_); have hz1 := HM1.out.size; have hz5 := hm_.size; clear hp_ hm_))
  obtain ⟨V, hV⟩ : ∃ W : World, W = w5.alloc (.cells #[.int .i64 vk, .bool vb, .int .i64 vn, .string vs, .slice vA vnl vc, .slice vAK vnk vcK] 25) := ⟨_, rfl⟩
  have HJV : Hid (Blk V w5.heap.size 25 [.int .i64 vk, .bool vb, .int .i64 vn, .string vs, .slice vA vnl vc, .slice vAK vnk vcK]) := by rw [hV]; exact Blk.new w5 _ 25
  have hsV : Step w5 V := by rw [hV]; exact Step.of
  rw [← hV]
  clear hV
  have HZ5 := hide ((HZ0.out.grown HM5.out (by intro h_; injection h_ with h_; omega)).fut (w' := V))
  have HPV := hide (HP5.out.fut (w' := V))
  have HB5 : Hid (Below w.heap.size w V) := (step_mv HB0.out HM5.out (by omega)).trans (hsV.below.mono (by omega))
  have hjb : w5.heap.size ≠ bb := by omega
  have hjg : w5.heap.size ≠ g := by omega
  have hec0 : (ec == 0) = false := beq_eq_false_iff_ne.2 hecn
  have hecb : (ec != 0) = true := bne_iff_ne.2 hecn
  go_upto_region 7 with (go_at_call 24; go_loud (with_reducible refine (WH.out iE ec hiE _ HPV.out).mono ?_); rintro e w6 ⟨rfl, hp_, hm_⟩; have HP6 := hide hp_; have HM6 := hide hm_; clear hp_ hm_)
  have HZ6 := hide (HZ5.out.grown HM6.out (by intro h_; injection h_ with h_; omega))
  obtain ⟨q0, q1, q2⟩ := At.z3 HP6.out.at0
  have lq := HP6.out.lt
  have fq := HP6.out.free
  obtain ⟨z0, z1, z2, z3, z4, z5⟩ := At.z6 HZ6.out.at0
  have lz := HZ6.out.lt
  have fz := HZ6.out.free
  have hKeep := (At.z3 (set6_far HP6.out (b := bb) (by omega) (.int .i64 0) (.bool false) (.int .i64 0) (.string ⟨#[]⟩) (.slice none 0 0) (.slice none 0 0)).at0).2.2
  unfold set6 at hKeep
  go_upto_region 10 with fail
  refine wp_region_held_drew (S := (fun w' => True ∧ w'.cell? ⟨g, 2, none⟩ = some (.int .i64 ec))) (by kernel_rfl) (by (try dsimp only); (first | (with_reducible exact ⟨trivial, q2⟩) | (with_reducible exact ⟨trivial, keep_drew q2⟩) | (with_reducible exact ⟨trivial, keep_drew hKeep⟩) | (with_reducible exact hHeld))) (fun hHeld => ?_)
  refine wpAnyH_take (i := 0) (oi := ⟨some 40, _, _, _, _, _⟩) (v := ?_) rfl (by kernel_rfl) (by kernel_rfl) (by kernel_rfl) (fun _ _ _ h => h) (Or.inl ⟨by rfl, ?_⟩) (by assumption) ?_
  rotate_left
  · ((intro w hSw); (try dsimp only at hSw); go_simp; (try with_reducible rfl))
  (try simp only [Act.put, List.setIfInBounds_toArray, List.set_cons_zero, List.set_cons_succ])
  refine wpAnyH_take (i := 1) (oi := ⟨some 41, _, _, _, _, _⟩) (v := ?_) rfl (by kernel_rfl) (by kernel_rfl) (by kernel_rfl) (fun _ _ _ h => h) (Or.inl ⟨by rfl, ?_⟩) (by assumption) ?_
  rotate_left
  · ((intro w hSw); (try dsimp only at hSw); go_simp; (try with_reducible rfl))
  (try simp only [Act.put, List.setIfInBounds_toArray, List.set_cons_zero, List.set_cons_succ])
  refine wpAnyH_take (i := 2) (oi := ⟨some 42, _, _, _, _, _⟩) (v := ?_) rfl (by kernel_rfl) (by kernel_rfl) (by kernel_rfl) (fun _ _ _ h => h) (Or.inl ⟨by rfl, ?_⟩) (by assumption) ?_
  rotate_left
  · ((intro w hSw); (try dsimp only at hSw); go_simp; (try with_reducible rfl))
  (try simp only [Act.put, List.setIfInBounds_toArray, List.set_cons_zero, List.set_cons_succ])
  refine wpAnyH_take (i := 3) (oi := ⟨some 43, _, _, _, _, _⟩) (v := ?_) rfl (by kernel_rfl) (by kernel_rfl) (by kernel_rfl) (fun _ _ _ h => h) (Or.inl ⟨by rfl, ?_⟩) (by assumption) ?_
  rotate_left
  · ((intro w hSw); (try dsimp only at hSw); go_simp; (try with_reducible rfl))
  (try simp only [Act.put, List.setIfInBounds_toArray, List.set_cons_zero, List.set_cons_succ])
  refine wpAnyH_take (i := 4) (oi := ⟨some 44, _, _, _, _, _⟩) (v := ?_) rfl (by kernel_rfl) (by kernel_rfl) (by kernel_rfl) (fun _ _ _ h => h) (Or.inl ⟨by rfl, ?_⟩) (by assumption) ?_
  rotate_left
  · ((intro w hSw); (try dsimp only at hSw); go_simp; (try with_reducible rfl))
  (try simp only [Act.put, List.setIfInBounds_toArray, List.set_cons_zero, List.set_cons_succ])
  refine wpAnyH_ready (rs := [5]) (by kernel_rfl) (by simp) ?_
  refine AllReadyH.cons (o := ⟨none, _, _, _, _, _⟩) rfl (fun K hK => ?_) AllReadyH.nil
  go_simp
  refine hK.out _ _ (by (try dsimp only); (first | (with_reducible exact ⟨trivial, q2⟩) | (with_reducible exact ⟨trivial, keep_drew q2⟩) | (with_reducible exact ⟨trivial, keep_drew hKeep⟩) | (with_reducible exact hHeld))) (fun hHeld => ?_)
  clear hK K
  (try simp only [Act.put, List.setIfInBounds_toArray, List.set_cons_zero, List.set_cons_succ])
  refine wpAnyH_take (i := 6) (oi := ⟨some 3, _, _, _, _, _⟩) (v := ?_) rfl (by kernel_rfl) (by kernel_rfl) (by kernel_rfl) (fun _ _ _ h => h) (Or.inl ⟨by rfl, ?_⟩) (by assumption) ?_
  rotate_left
  · ((intro w hSw); (try dsimp only at hSw); go_simp; (try with_reducible rfl))
  (try simp only [Act.put, List.setIfInBounds_toArray, List.set_cons_zero, List.set_cons_succ])
  refine wpAnyH_done (by kernel_rfl) ?_ _
  go_wp2_with fail
  have hF := set6_blk HZ6.out (.int .i64 0) (.bool false) (.int .i64 0) (.string ⟨#[]⟩) (.slice none 0 0) (.slice none 0 0)
  obtain ⟨c0, c1, c2, c3, c4, c5⟩ := At.z6 hF.at0
  have b6 := set6_below (w := w6) (n := w.heap.size) (b := bb) (by rw [HBE.out]; exact Nat.le_refl _) (.int .i64 0) (.bool false) (.int .i64 0) (.string ⟨#[]⟩) (.slice none 0 0) (.slice none 0 0)
  obtain ⟨Y, hY⟩ : ∃ Y : World, Y = set6 w6 bb (.int .i64 0) (.bool false) (.int .i64 0) (.string ⟨#[]⟩) (.slice none 0 0) (.slice none 0 0) := ⟨_, rfl⟩
  rw [← hY] at b6 c0 c1 c2 c3 c4 c5
  unfold set6 at hY
  rw [← hY]
  clear hY hF
  have hst : Step w Y := ⟨(step_mv HB5.out HM6.out (by omega)).trans b6⟩
  refine bodyPost_ret (v := .tuple #[.agg #[.int .i64 0, .bool false, .int .i64 0, .string ⟨#[]⟩, .slice none 0 0, .slice none 0 0], .int .i64 ec]) (by simp [results, Tryd.results11, go_sem, c0, c1, c2, c3, c4, c5]) rfl ?_
  exact pd_zero
set_option maxRecDepth 100000 in
set_option maxHeartbeats 8000000 in
theorem dparse_rest (s : ByteArray) (w : World) (hs : s.size ≤ 65536) (j : J) (i4 : Nat) (hv : valD s 16 (whiteE s 0) = .ok (j, i4)) (hne : whiteE s i4 ≠ s.size) : Calls Tryd.prog 11 #[.string s] w (ParseD w (J.zero, 300)) := by
  have hl : ¬ (s.size : Int) > 65536 := by omega
  obtain ⟨W0, hW0⟩ : ∃ x : World, x = w.alloc (.cells #[.int .i64 0, .bool false, .int .i64 0, .string ⟨#[]⟩, .slice none 0 0, .slice none 0 0] 25) := ⟨_, rfl⟩
  obtain ⟨W, hW⟩ : ∃ x : World, x = W0.alloc (.cells #[.string s, .int .i64 0, .int .i64 0] 57) := ⟨_, rfl⟩
  have hz0 : W0.heap.size = w.heap.size + 1 := by rw [hW0]; simp
  have HZ0 : Hid (Blk W w.heap.size 25 zeroC) := by rw [hW, hW0]; exact (Blk.new w zeroC 25).alloc _
  have HP0 : Hid (Dp W (w.heap.size + 1) s 0 0) := by rw [hW]; exact Blk.new_at hz0 [.string s, .int .i64 0, .int .i64 0] 57
  have hzW : W.heap.size = w.heap.size + 1 + 1 := by rw [hW]; simp [hz0]
  have HB0 : Hid (Below w.heap.size w W) := by rw [hW, hW0]; exact (Step.of : Step w ((w.alloc (.cells #[.int .i64 0, .bool false, .int .i64 0, .string ⟨#[]⟩, .slice none 0 0, .slice none 0 0] 25)).alloc (.cells #[.string s, .int .i64 0, .int .i64 0] 57))).below
  obtain ⟨bb, hbb⟩ : ∃ n, w.heap.size = n := ⟨_, rfl⟩
  obtain ⟨g, hg⟩ : ∃ n, w.heap.size + 1 = n := ⟨_, rfl⟩
  rw [hg] at HP0 hzW
  rw [hbb] at HZ0
  have hgb : g = bb + 1 := by omega
  have WH := hide (fun (k : Nat) (cd : Int) (hk : k ≤ s.size) w' (hp : Dp w' g s k cd) => dwhite_any g s k cd w' hp hk hs)
  have FL := hide (fun (k : Nat) w' (hp : Dp w' g s k 0) => dfail_any g s k 300 w' hp)
  obtain ⟨hw0, hw1⟩ := white_bd (s := s) (i := 0) (Nat.zero_le _)
  have HVV : ∀ w', Dp w' g s (whiteE s 0) 0 → Calls Tryd.prog 25 #[.pointer (some ⟨g, 0, none⟩), .int .i64 0] w' fun e w'' => (∃ (vk : Int) (vb : Bool) (vn : Int) (vs : ByteArray) (vA : Option Addr) (vc vnl : Nat) (vl : List T) (vAK : Option Addr) (vcK vnk : Nat) (vks : List ByteArray), e = .returned (.agg #[.int .i64 vk, .bool vb, .int .i64 vn, .string vs, .slice vA vnl vc, .slice vAK vnk vcK]) ∧ Hid (vl.length = vnl ∧ vks.length = vnk) ∧ ValC w'.heap.size g s (valD s 16 (whiteE s 0)) w'' (T.mk vk vb vn vs vA vc vl vAK vcK vks)) ∧ Mv g w' w'' := fun w' hp => (dvalue_any g s hs 16 (Nat.le_refl _) _ w' hp hw1).mono fun e w'' hh => ⟨vald_cells hh.1, hh.2⟩
  rw [hv] at HVV
  obtain ⟨k1, hk1⟩ : ∃ k, whiteE s 0 = k := ⟨_, rfl⟩
  rw [hk1] at HVV hw1
  have HK1 := hide hk1
  have HVV : Hid (∀ w', Dp w' g s k1 0 → Calls Tryd.prog 25 #[.pointer (some ⟨g, 0, none⟩), .int .i64 0] w' fun e w'' => (∃ (vk : Int) (vb : Bool) (vn : Int) (vs : ByteArray) (vA : Option Addr) (vc vnl : Nat) (vl : List T) (vAK : Option Addr) (vcK vnk : Nat) (vks : List ByteArray), e = .returned (.agg #[.int .i64 vk, .bool vb, .int .i64 vn, .string vs, .slice vA vnl vc, .slice vAK vnk vcK]) ∧ Hid (vl.length = vnl ∧ vks.length = vnk) ∧ (T.j (T.mk vk vb vn vs vA vc vl vAK vcK vks) = j ∧ TAt w'' (fun k => w'.heap.size ≤ k) (T.mk vk vb vn vs vA vc vl vAK vcK vks) ∧ Dp w'' g s i4 0 ∧ i4 ≤ s.size)) ∧ Mv g w' w'') := HVV
  have HBE := hide hbb
  have HGE := hide hg
  have HZW := hide hzW
  have HGB := hide hgb
  clear hv hk1 hw0 hbb hg hz0 hzW hgb
  go_enter Tryd.func11, Tryd.ntmps11
  go_upto_region 4 with fail
  rw [← hW0]
  rw [← hW]
  clear hW0 hW
  rw [HGE.out]
  rw [HBE.out]
  have hb1 : w.heap.size ≤ bb := Nat.le_of_eq HBE.out
  have hb2 : bb ≤ w.heap.size := Nat.le_of_eq HBE.out.symm
  have hg1 : g ≤ bb + 1 := Nat.le_of_eq HGB.out
  have hg2 : bb + 1 ≤ g := Nat.le_of_eq HGB.out.symm
  have hzW : g + 1 ≤ W.heap.size := Nat.le_of_eq HZW.out.symm
  go_upto_region 6 with (first | (go_at_call 24; go_loud (with_reducible refine (WH.out 0 0 (Nat.zero_le _) _ HP0.out).mono ?_); rintro e w1 ⟨rfl, hp0, hm_⟩; have hp_ := hp0; rw [HK1.out] at hp_; have HP1 := hide hp_; have HM1 := hide hm_; clear hp_ hp0 hm_) | (go_at_call 25; go_loud (with_reducible refine (HVV.out _ HP1.out).mono ?_); rintro e w5 ⟨⟨vk, vb, vn, vs, vA, vc, vnl, vl, vAK, vcK, vnk, vks, rfl, HVL, hvj, ht5, hp_, hi4⟩, hm_⟩; have HVJ := hide hvj; have HTV := hide ht5; have HP5 := hide hp_; have HM5 := hide (grown_trans HM1.out hm_); have hz1 := HM1.out.size; have hz5 := hm_.size; clear hp_ hm_))
  obtain ⟨V, hV⟩ : ∃ W : World, W = w5.alloc (.cells #[.int .i64 vk, .bool vb, .int .i64 vn, .string vs, .slice vA vnl vc, .slice vAK vnk vcK] 25) := ⟨_, rfl⟩
  have HJV : Hid (Blk V w5.heap.size 25 [.int .i64 vk, .bool vb, .int .i64 vn, .string vs, .slice vA vnl vc, .slice vAK vnk vcK]) := by rw [hV]; exact Blk.new w5 _ 25
  have hsV : Step w5 V := by rw [hV]; exact Step.of
  rw [← hV]
  clear hV
  have HZ5 := hide ((HZ0.out.grown HM5.out (by intro h_; injection h_ with h_; omega)).fut (w' := V))
  have HPV := hide (HP5.out.fut (w' := V))
  have HB5 : Hid (Below w.heap.size w V) := (step_mv HB0.out HM5.out (by omega)).trans (hsV.below.mono (by omega))
  have hjb : w5.heap.size ≠ bb := by omega
  have hjg : w5.heap.size ≠ g := by omega
  have hwb := (white_bd hi4).2
  go_upto_region 7 with (go_at_call 24; go_loud (with_reducible refine (WH.out i4 0 hi4 _ HPV.out).mono ?_); rintro e w6 ⟨rfl, hp_, hm_⟩; have HP6 := hide hp_; have HM6 := hide hm_; clear hp_ hm_)
  have HZ6 := hide (HZ5.out.grown HM6.out (by intro h_; injection h_ with h_; omega))
  obtain ⟨q0, q1, q2⟩ := At.z3 HP6.out.at0
  have lq := HP6.out.lt
  have fq := HP6.out.free
  obtain ⟨z0, z1, z2, z3, z4, z5⟩ := At.z6 HZ6.out.at0
  have lz := HZ6.out.lt
  have fz := HZ6.out.free
  have hneb : ((whiteE s i4 : Int) != (s.size : Int)) = true := bne_iff_ne.2 (by omega)
  go_upto_region 9 with (go_at_call 26; go_loud (with_reducible refine (FL.out _ _ HP6.out).mono ?_); rintro e w7 ⟨rfl, hp_, hm_⟩; have HP7 := hide hp_; have HM7 := hide hm_; clear hp_ hm_ q0 q1 q2 lq fq)
  clear z0 z1 z2 z3 z4 z5 lz fz
  have HZ7 := hide (HZ6.out.grown HM7.out (by intro h_; injection h_ with h_; omega))
  obtain ⟨q0, q1, q2⟩ := At.z3 HP7.out.at0
  have lq := HP7.out.lt
  have fq := HP7.out.free
  obtain ⟨z0, z1, z2, z3, z4, z5⟩ := At.z6 HZ7.out.at0
  have lz := HZ7.out.lt
  have fz := HZ7.out.free
  have hKeep := (At.z3 (set6_far HP7.out (b := bb) (by omega) (.int .i64 0) (.bool false) (.int .i64 0) (.string ⟨#[]⟩) (.slice none 0 0) (.slice none 0 0)).at0).2.2
  unfold set6 at hKeep
  go_upto_region 10 with fail
  refine wp_region_held_drew (S := (fun w' => True ∧ w'.cell? ⟨g, 2, none⟩ = some (.int .i64 300))) (by kernel_rfl) (by (try dsimp only); (first | (with_reducible exact ⟨trivial, q2⟩) | (with_reducible exact ⟨trivial, keep_drew q2⟩) | (with_reducible exact ⟨trivial, keep_drew hKeep⟩) | (with_reducible exact hHeld))) (fun hHeld => ?_)
  refine wpAnyH_take (i := 0) (oi := ⟨some 40, _, _, _, _, _⟩) (v := ?_) rfl (by kernel_rfl) (by kernel_rfl) (by kernel_rfl) (fun _ _ _ h => h) (Or.inl ⟨by rfl, ?_⟩) (by assumption) ?_
  rotate_left
  · ((intro w hSw); (try dsimp only at hSw); go_simp; (try with_reducible rfl))
  (try simp only [Act.put, List.setIfInBounds_toArray, List.set_cons_zero, List.set_cons_succ])
  refine wpAnyH_take (i := 1) (oi := ⟨some 41, _, _, _, _, _⟩) (v := ?_) rfl (by kernel_rfl) (by kernel_rfl) (by kernel_rfl) (fun _ _ _ h => h) (Or.inl ⟨by rfl, ?_⟩) (by assumption) ?_
  rotate_left
  · ((intro w hSw); (try dsimp only at hSw); go_simp; (try with_reducible rfl))
  (try simp only [Act.put, List.setIfInBounds_toArray, List.set_cons_zero, List.set_cons_succ])
  refine wpAnyH_take (i := 2) (oi := ⟨some 42, _, _, _, _, _⟩) (v := ?_) rfl (by kernel_rfl) (by kernel_rfl) (by kernel_rfl) (fun _ _ _ h => h) (Or.inl ⟨by rfl, ?_⟩) (by assumption) ?_
  rotate_left
  · ((intro w hSw); (try dsimp only at hSw); go_simp; (try with_reducible rfl))
  (try simp only [Act.put, List.setIfInBounds_toArray, List.set_cons_zero, List.set_cons_succ])
  refine wpAnyH_take (i := 3) (oi := ⟨some 43, _, _, _, _, _⟩) (v := ?_) rfl (by kernel_rfl) (by kernel_rfl) (by kernel_rfl) (fun _ _ _ h => h) (Or.inl ⟨by rfl, ?_⟩) (by assumption) ?_
  rotate_left
  · ((intro w hSw); (try dsimp only at hSw); go_simp; (try with_reducible rfl))
  (try simp only [Act.put, List.setIfInBounds_toArray, List.set_cons_zero, List.set_cons_succ])
  refine wpAnyH_take (i := 4) (oi := ⟨some 44, _, _, _, _, _⟩) (v := ?_) rfl (by kernel_rfl) (by kernel_rfl) (by kernel_rfl) (fun _ _ _ h => h) (Or.inl ⟨by rfl, ?_⟩) (by assumption) ?_
  rotate_left
  · ((intro w hSw); (try dsimp only at hSw); go_simp; (try with_reducible rfl))
  (try simp only [Act.put, List.setIfInBounds_toArray, List.set_cons_zero, List.set_cons_succ])
  refine wpAnyH_ready (rs := [5]) (by kernel_rfl) (by simp) ?_
  refine AllReadyH.cons (o := ⟨none, _, _, _, _, _⟩) rfl (fun K hK => ?_) AllReadyH.nil
  go_simp
  refine hK.out _ _ (by (try dsimp only); (first | (with_reducible exact ⟨trivial, q2⟩) | (with_reducible exact ⟨trivial, keep_drew q2⟩) | (with_reducible exact ⟨trivial, keep_drew hKeep⟩) | (with_reducible exact hHeld))) (fun hHeld => ?_)
  clear hK K
  (try simp only [Act.put, List.setIfInBounds_toArray, List.set_cons_zero, List.set_cons_succ])
  refine wpAnyH_take (i := 6) (oi := ⟨some 3, _, _, _, _, _⟩) (v := ?_) rfl (by kernel_rfl) (by kernel_rfl) (by kernel_rfl) (fun _ _ _ h => h) (Or.inl ⟨by rfl, ?_⟩) (by assumption) ?_
  rotate_left
  · ((intro w hSw); (try dsimp only at hSw); go_simp; (try with_reducible rfl))
  (try simp only [Act.put, List.setIfInBounds_toArray, List.set_cons_zero, List.set_cons_succ])
  refine wpAnyH_done (by kernel_rfl) ?_ _
  go_wp2_with fail
  have hF := set6_blk HZ7.out (.int .i64 0) (.bool false) (.int .i64 0) (.string ⟨#[]⟩) (.slice none 0 0) (.slice none 0 0)
  obtain ⟨c0, c1, c2, c3, c4, c5⟩ := At.z6 hF.at0
  have b6 := set6_below (w := w7) (n := w.heap.size) (b := bb) (by rw [HBE.out]; exact Nat.le_refl _) (.int .i64 0) (.bool false) (.int .i64 0) (.string ⟨#[]⟩) (.slice none 0 0) (.slice none 0 0)
  obtain ⟨Y, hY⟩ : ∃ Y : World, Y = set6 w7 bb (.int .i64 0) (.bool false) (.int .i64 0) (.string ⟨#[]⟩) (.slice none 0 0) (.slice none 0 0) := ⟨_, rfl⟩
  rw [← hY] at b6 c0 c1 c2 c3 c4 c5
  unfold set6 at hY
  rw [← hY]
  clear hY hF
  have hst : Step w Y := ⟨(step_mv (step_mv HB5.out HM6.out (by omega)) HM7.out (by omega)).trans b6⟩
  refine bodyPost_ret (v := .tuple #[.agg #[.int .i64 0, .bool false, .int .i64 0, .string ⟨#[]⟩, .slice none 0 0, .slice none 0 0], .int .i64 300]) (by simp [results, Tryd.results11, go_sem, c0, c1, c2, c3, c4, c5]) rfl ?_
  exact pd_zero
set_option maxRecDepth 100000 in
set_option maxHeartbeats 8000000 in
theorem dparse_ok (s : ByteArray) (w : World) (hs : s.size ≤ 65536) (j : J) (i4 : Nat) (hv : valD s 16 (whiteE s 0) = .ok (j, i4)) (hne : whiteE s i4 = s.size) : Calls Tryd.prog 11 #[.string s] w (ParseD w (j, 0)) := by
  have hl : ¬ (s.size : Int) > 65536 := by omega
  obtain ⟨W0, hW0⟩ : ∃ x : World, x = w.alloc (.cells #[.int .i64 0, .bool false, .int .i64 0, .string ⟨#[]⟩, .slice none 0 0, .slice none 0 0] 25) := ⟨_, rfl⟩
  obtain ⟨W, hW⟩ : ∃ x : World, x = W0.alloc (.cells #[.string s, .int .i64 0, .int .i64 0] 57) := ⟨_, rfl⟩
  have hz0 : W0.heap.size = w.heap.size + 1 := by rw [hW0]; simp
  have HZ0 : Hid (Blk W w.heap.size 25 zeroC) := by rw [hW, hW0]; exact (Blk.new w zeroC 25).alloc _
  have HP0 : Hid (Dp W (w.heap.size + 1) s 0 0) := by rw [hW]; exact Blk.new_at hz0 [.string s, .int .i64 0, .int .i64 0] 57
  have hzW : W.heap.size = w.heap.size + 1 + 1 := by rw [hW]; simp [hz0]
  have HB0 : Hid (Below w.heap.size w W) := by rw [hW, hW0]; exact (Step.of : Step w ((w.alloc (.cells #[.int .i64 0, .bool false, .int .i64 0, .string ⟨#[]⟩, .slice none 0 0, .slice none 0 0] 25)).alloc (.cells #[.string s, .int .i64 0, .int .i64 0] 57))).below
  obtain ⟨bb, hbb⟩ : ∃ n, w.heap.size = n := ⟨_, rfl⟩
  obtain ⟨g, hg⟩ : ∃ n, w.heap.size + 1 = n := ⟨_, rfl⟩
  rw [hg] at HP0 hzW
  rw [hbb] at HZ0
  have hgb : g = bb + 1 := by omega
  have WH := hide (fun (k : Nat) (cd : Int) (hk : k ≤ s.size) w' (hp : Dp w' g s k cd) => dwhite_any g s k cd w' hp hk hs)
  have FL := hide (fun (k : Nat) w' (hp : Dp w' g s k 0) => dfail_any g s k 300 w' hp)
  obtain ⟨hw0, hw1⟩ := white_bd (s := s) (i := 0) (Nat.zero_le _)
  have HVV : ∀ w', Dp w' g s (whiteE s 0) 0 → Calls Tryd.prog 25 #[.pointer (some ⟨g, 0, none⟩), .int .i64 0] w' fun e w'' => (∃ (vk : Int) (vb : Bool) (vn : Int) (vs : ByteArray) (vA : Option Addr) (vc vnl : Nat) (vl : List T) (vAK : Option Addr) (vcK vnk : Nat) (vks : List ByteArray), e = .returned (.agg #[.int .i64 vk, .bool vb, .int .i64 vn, .string vs, .slice vA vnl vc, .slice vAK vnk vcK]) ∧ Hid (vl.length = vnl ∧ vks.length = vnk) ∧ ValC w'.heap.size g s (valD s 16 (whiteE s 0)) w'' (T.mk vk vb vn vs vA vc vl vAK vcK vks)) ∧ Mv g w' w'' := fun w' hp => (dvalue_any g s hs 16 (Nat.le_refl _) _ w' hp hw1).mono fun e w'' hh => ⟨vald_cells hh.1, hh.2⟩
  rw [hv] at HVV
  obtain ⟨k1, hk1⟩ : ∃ k, whiteE s 0 = k := ⟨_, rfl⟩
  rw [hk1] at HVV hw1
  have HK1 := hide hk1
  have HVV : Hid (∀ w', Dp w' g s k1 0 → Calls Tryd.prog 25 #[.pointer (some ⟨g, 0, none⟩), .int .i64 0] w' fun e w'' => (∃ (vk : Int) (vb : Bool) (vn : Int) (vs : ByteArray) (vA : Option Addr) (vc vnl : Nat) (vl : List T) (vAK : Option Addr) (vcK vnk : Nat) (vks : List ByteArray), e = .returned (.agg #[.int .i64 vk, .bool vb, .int .i64 vn, .string vs, .slice vA vnl vc, .slice vAK vnk vcK]) ∧ Hid (vl.length = vnl ∧ vks.length = vnk) ∧ (T.j (T.mk vk vb vn vs vA vc vl vAK vcK vks) = j ∧ TAt w'' (fun k => w'.heap.size ≤ k) (T.mk vk vb vn vs vA vc vl vAK vcK vks) ∧ Dp w'' g s i4 0 ∧ i4 ≤ s.size)) ∧ Mv g w' w'') := HVV
  have HBE := hide hbb
  have HGE := hide hg
  have HZW := hide hzW
  have HGB := hide hgb
  clear hv hk1 hw0 hbb hg hz0 hzW hgb
  go_enter Tryd.func11, Tryd.ntmps11
  go_upto_region 4 with fail
  rw [← hW0]
  rw [← hW]
  clear hW0 hW
  rw [HGE.out]
  rw [HBE.out]
  have hb1 : w.heap.size ≤ bb := Nat.le_of_eq HBE.out
  have hb2 : bb ≤ w.heap.size := Nat.le_of_eq HBE.out.symm
  have hg1 : g ≤ bb + 1 := Nat.le_of_eq HGB.out
  have hg2 : bb + 1 ≤ g := Nat.le_of_eq HGB.out.symm
  have hzW : g + 1 ≤ W.heap.size := Nat.le_of_eq HZW.out.symm
  go_upto_region 6 with (first | (go_at_call 24; go_loud (with_reducible refine (WH.out 0 0 (Nat.zero_le _) _ HP0.out).mono ?_); rintro e w1 ⟨rfl, hp0, hm_⟩; have hp_ := hp0; rw [HK1.out] at hp_; have HP1 := hide hp_; have HM1 := hide hm_; clear hp_ hp0 hm_) | (go_at_call 25; go_loud (with_reducible refine (HVV.out _ HP1.out).mono ?_); rintro e w5 ⟨⟨vk, vb, vn, vs, vA, vc, vnl, vl, vAK, vcK, vnk, vks, rfl, HVL, hvj, ht5, hp_, hi4⟩, hm_⟩; have HVJ := hide hvj; have HTV := hide ht5; have HP5 := hide hp_; have HM5 := hide (grown_trans HM1.out hm_); have hz1 := HM1.out.size; have hz5 := hm_.size; clear hp_ hm_))
  obtain ⟨V, hV⟩ : ∃ W : World, W = w5.alloc (.cells #[.int .i64 vk, .bool vb, .int .i64 vn, .string vs, .slice vA vnl vc, .slice vAK vnk vcK] 25) := ⟨_, rfl⟩
  have HJV : Hid (Blk V w5.heap.size 25 [.int .i64 vk, .bool vb, .int .i64 vn, .string vs, .slice vA vnl vc, .slice vAK vnk vcK]) := by rw [hV]; exact Blk.new w5 _ 25
  have hsV : Step w5 V := by rw [hV]; exact Step.of
  rw [← hV]
  clear hV
  have HZ5 := hide ((HZ0.out.grown HM5.out (by intro h_; injection h_ with h_; omega)).fut (w' := V))
  have HPV := hide (HP5.out.fut (w' := V))
  have HB5 : Hid (Below w.heap.size w V) := (step_mv HB0.out HM5.out (by omega)).trans (hsV.below.mono (by omega))
  have hjb : w5.heap.size ≠ bb := by omega
  have hjg : w5.heap.size ≠ g := by omega
  go_upto_region 7 with (go_at_call 24; go_loud (with_reducible refine (WH.out i4 0 hi4 _ HPV.out).mono ?_); rintro e w6 ⟨rfl, hp_, hm_⟩; have HP6 := hide hp_; have HM6 := hide hm_; clear hp_ hm_)
  have HJ6 := hide (HJV.out.grown HM6.out (by intro h_; injection h_ with h_; omega))
  have HZ6 := hide (HZ5.out.grown HM6.out (by intro h_; injection h_ with h_; omega))
  obtain ⟨q0, q1, q2⟩ := At.z3 HP6.out.at0
  have lq := HP6.out.lt
  have fq := HP6.out.free
  obtain ⟨z0, z1, z2, z3, z4, z5⟩ := At.z6 HZ6.out.at0
  have lz := HZ6.out.lt
  have fz := HZ6.out.free
  have hneb : ((whiteE s i4 : Int) != (s.size : Int)) = false := by rw [hne]; exact bne_self_eq_false _
  obtain ⟨x0, x1, x2, x3, x4, x5⟩ := At.z6 HJ6.out.at0
  have lx := HJ6.out.lt
  have HF := hide (HZ6.out)
  go_wp2_with fail
  clear x0 x1 x2 x3 x4 x5 z0 z1 z2 z3 z4 z5 q0 q1 q2
  have hF := set6_blk HZ6.out (.int .i64 vk) (.bool vb) (.int .i64 vn) (.string vs) (.slice vA vnl vc) (.slice vAK vnk vcK)
  obtain ⟨c0, c1, c2, c3, c4, c5⟩ := At.z6 hF.at0
  have b6 := set6_below (w := w6) (n := w.heap.size) (b := bb) (by omega) (.int .i64 vk) (.bool vb) (.int .i64 vn) (.string vs) (.slice vA vnl vc) (.slice vAK vnk vcK)
  have g6 := TAt.grown (set6_grown w6 bb (.int .i64 vk) (.bool vb) (.int .i64 vn) (.string vs) (.slice vA vnl vc) (.slice vAK vnk vcK)) (fun q hq e2 => by injection e2 with e2; have := hq; omega) (TAt.weak (ok' := fun q => bb + 1 ≤ q) (fun q hq => by omega) (TAt.grown HM6.out (fun q hq e2 => by injection e2 with e2; have := hq; omega) (TAt.grown (row := none) (grown_of_below_ hsV.below) (fun q _ e => by cases e) HTV.out)))
  obtain ⟨Y, hY⟩ : ∃ Y : World, Y = set6 w6 bb (.int .i64 vk) (.bool vb) (.int .i64 vn) (.string vs) (.slice vA vnl vc) (.slice vAK vnk vcK) := ⟨_, rfl⟩
  rw [← hY] at b6 g6 c0 c1 c2 c3 c4 c5
  unfold set6 at hY
  rw [← hY]
  clear hY hF
  refine bodyPost_ret (v := .tuple #[.agg #[.int .i64 vk, .bool vb, .int .i64 vn, .string vs, .slice vA vnl vc, .slice vAK vnk vcK], .int .i64 0]) (by simp [results, Tryd.results11, go_sem, c0, c1, c2, c3, c4, c5]) rfl ?_
  exact ⟨(T.mk vk vb vn vs vA vc vl vAK vcK vks), by rw [T.cells, HVL.out.1, HVL.out.2], HVJ.out, TAt.weak (fun q hq => by have := hq; omega) g6, ⟨(step_mv HB5.out HM6.out (by omega)).trans b6⟩⟩
/-- What the document's Parse answers. -/
theorem dparse_any (s : ByteArray) (w : World) (hm : s.size ≤ 9223372036854775807) : Calls Tryd.prog 11 #[.string s] w (ParseD w (parseP s)) := by
  by_cases hs : 65536 < s.size
  · exact dparse_long s w hs hm
  · rw [parse_rel, if_neg hs]
    cases hv : valD s 16 (whiteE s 0) with
    | error e => exact dparse_err s w (by omega) e hv
    | ok p =>
      obtain ⟨j, i⟩ := p
      by_cases hne : whiteE s i = s.size
      · simp only [if_pos hne]
        exact dparse_ok s w (by omega) j i hv hne
      · simp only [if_neg hne]
        exact dparse_rest s w (by omega) j i hv hne
end Go.Proofs.YtoibfefalflooaaDoor
