import Derived.Test.YtfojdjmeefglcaaDoorN
namespace Go.Proofs.YtfojdjmeefglcaaDoor
open Go.RowKit

theorem num_any (n : Int) (w : World) : Calls Tryd.prog 22 #[.int .i64 n] w fun e w' => e = .returned (.int .i64 n) ∧ w = w' := by
  go_enter Tryd.func22, Tryd.ntmps22
  go_wp2
  go_ret
  exact ⟨rfl, rfl⟩

set_option maxHeartbeats 4000000 in
theorem awake12_any (w : World) : Calls Tryd.prog 31 #[] w fun e w' => e = .returned (.bool true) ∧ Below w.heap.size w w' := by
  have HN1 := hide (SlAt.new (w := w) (size := 1) (l := strCells [str [97], str [98]]) (cs := [.string (str [97]), .string (str [98])]) (t := 9) rfl (by intro x hx; simp [strCells] at hx; rcases hx with rfl | rfl <;> rfl))
  have HN2 := hide (SlAt.new (w := w.alloc (.cells [.string (str [97]), .string (str [98])].toArray 9)) (size := 1) (l := intCells [1, 3]) (cs := [.int .i64 1, .int .i64 3]) (t := 3) rfl (by intro x hx; simp [intCells] at hx; rcases hx with rfl | rfl <;> rfl))
  simp only [hsz] at HN1 HN2
  have hnew := new_any [str [97], str [98]] [1, 3] (some ⟨w.heap.size, 0, none⟩) (some ⟨w.heap.size + 1, 0, none⟩) 2 2 ((w.alloc (.cells #[.string (str [97]), .string (str [98])] 9)).alloc (.cells #[.int .i64 1, .int .i64 3] 3)) (by simp only [hsz]; exact (HN1.out.keep (below_a1 _ _ |>.mono (by simp only [hsz]; omega))).more (by omega)) (by simp only [hsz]; exact HN2.out) (by decide)
    (by intro n hn; simp at hn; rcases hn with rfl | rfl <;> decide)
  rw [aw_e1] at hnew
  have HC := hide hnew; clear hnew
  go_enter Tryd.func31, Tryd.ntmps31
  go_wp2_with fail
  refine HC.out.mono ?_
  intro e w1 h
  obtain ⟨A1, c1, rfl, hin1, _, hb1⟩ := h.got (by decide) (aw_small _ (by decide))
  have HB1 := hide (below_from1 (below_from1 hb1))
  have V1 := hide hin1.var
  clear h hb1 hin1 HN1 HN2 HC
  unfold Sch.val
  have hc := add_any aw1 A1 c1 (str [99]) 2 _ V1.out.sin (by decide)
  rw [aw_e2] at hc
  unfold Sch.val at hc
  have HC := hide hc; clear hc
  go_wp2_with fail
  refine HC.out.mono ?_
  intro e w2 h
  obtain ⟨A2, c2, rfl, hin2, _, hb2⟩ := h.got (by decide) (aw_small _ (by decide))
  have HB2 := hide ((HB1.out.alloc HB1.out.size _).trans (hb2.mono (by have := HB1.out.size; simp only [hsz]; omega)))
  have V1' := hide ((V1.out.after hb2).al (.cells #[.int .i64 aw2.id, .slice A2 aw2.cols.length c2, .int .i64 aw2.next] 24)); clear V1; have V1 := V1'; clear V1'
  have V2 := hide hin2.var
  clear h hb2 hin2 HC
  unfold Sch.val
  obtain ⟨v2_0, v2_1, v2_2⟩ := At.z3 V2.out.blk.at0
  have hc := drop_any aw2 A2 c2 (str [97]) _ V2.out.sin
  rw [aw_e3] at hc
  unfold Sch.val at hc
  have HC := hide hc; clear hc
  go_wp2_with fail
  refine HC.out.mono ?_
  intro e w3 h
  obtain ⟨A3, c3, rfl, hin3, _, hb3⟩ := h.got (by decide) (aw_small _ (by decide))
  have HB3 := hide ((HB2.out.alloc HB2.out.size _).trans (hb3.mono (by have := HB2.out.size; simp only [hsz]; omega)))
  have V1' := hide ((V1.out.after hb3).al (.cells #[.int .i64 aw3.id, .slice A3 aw3.cols.length c3, .int .i64 aw3.next] 24)); clear V1; have V1 := V1'; clear V1'
  have V3 := hide hin3.var
  clear h hb3 hin3 HC
  unfold Sch.val
  clear v2_0 v2_1 v2_2
  obtain ⟨v3_0, v3_1, v3_2⟩ := At.z3 V3.out.blk.at0
  have hc := rename_any aw3 A3 c3 (str [98]) (str [97]) _ V3.out.sin (by decide)
  rw [aw_e4] at hc
  unfold Sch.val at hc
  have HC := hide hc; clear hc
  go_wp2_with fail
  refine HC.out.mono ?_
  intro e w4 h
  obtain ⟨A4, c4, rfl, hin4, _, hb4⟩ := h.got (by decide) (aw_small _ (by decide))
  have HB4 := hide ((HB3.out.alloc HB3.out.size _).trans (hb4.mono (by have := HB3.out.size; simp only [hsz]; omega)))
  have V1' := hide ((V1.out.after hb4).al (.cells #[.int .i64 aw4.id, .slice A4 aw4.cols.length c4, .int .i64 aw4.next] 24)); clear V1; have V1 := V1'; clear V1'
  have V4 := hide hin4.var
  clear h hb4 hin4 HC
  unfold Sch.val
  clear v3_0 v3_1 v3_2
  obtain ⟨v1_0, v1_1, v1_2⟩ := At.z3 V1.out.blk.at0
  have hc := add_any aw1 A1 c1 (str [97]) 2 _ V1.out.sin (by decide)
  rw [aw_e5] at hc
  unfold Sch.val at hc
  have HC := hide hc; clear hc
  go_wp2_with fail
  refine HC.out.mono ?_
  intro e w5 h
  obtain ⟨A5, c5, rfl, hin5, _, hb5⟩ := h.got (by decide) (aw_small _ (by decide))
  have HB5 := hide ((HB4.out.alloc HB4.out.size _).trans (hb5.mono (by have := HB4.out.size; simp only [hsz]; omega)))
  have V4' := hide ((V4.out.after hb5).al (.cells #[.int .i64 Sch.zero.id, .slice A5 Sch.zero.cols.length c5, .int .i64 Sch.zero.next] 24)); clear V4; have V4 := V4'; clear V4'
  have V5 := hide hin5.var
  clear h hb5 hin5 HC
  unfold Sch.val
  clear v1_0 v1_1 v1_2
  obtain ⟨v4_0, v4_1, v4_2⟩ := At.z3 V4.out.blk.at0
  have hq1 : (aw4.id == 3) = true := by kernel_rfl
  have hq2 : (aw4.next == 4) = true := by kernel_rfl
  have HB5' := hide (HB5.out.alloc HB5.out.size (.cells #[.int .i64 Sch.zero.id, .slice A5 Sch.zero.cols.length c5, .int .i64 Sch.zero.next] 24)); clear HB5; have HB5 := HB5'; clear HB5' V1 V5
  have hc := V4.out.sin.find (str [97])
  rw [aw_e6] at hc
  unfold Sch.val at hc
  have HC := hide hc; clear hc
  go_wp2_with (go_at_call 22; refine (num_any _ _).mono ?_; rintro e w9 ⟨rfl, rfl⟩)
  refine HC.out.mono ?_
  rintro e w6 ⟨rfl, hb6⟩
  have HB6 := hide (HB5.out.trans (hb6.mono HB5.out.size))
  have V4' := hide (V4.out.after hb6); clear V4; have V4 := V4'; clear V4'
  clear hb6 HC v4_0 v4_1 v4_2
  obtain ⟨v4_0, v4_1, v4_2⟩ := At.z3 V4.out.blk.at0
  have hc := V4.out.sin.find (str [122])
  rw [aw_e7] at hc
  unfold Sch.val at hc
  have HC := hide hc; clear hc
  go_wp2_with (go_at_call 22; refine (num_any _ _).mono ?_; rintro e w9 ⟨rfl, rfl⟩)
  refine HC.out.mono ?_
  rintro e w7 ⟨rfl, hb7⟩
  have HB7 := hide (HB6.out.trans (hb7.mono HB6.out.size))
  have V4' := hide (V4.out.after hb7); clear V4; have V4 := V4'; clear V4'
  clear hb7 HC v4_0 v4_1 v4_2
  obtain ⟨v4_0, v4_1, v4_2⟩ := At.z3 V4.out.blk.at0
  have hc := V4.out.sin.may
  rw [aw_e8] at hc
  unfold Sch.val at hc
  have HC := hide hc; clear hc
  go_wp2_with (go_at_call 22; refine (num_any _ _).mono ?_; rintro e w9 ⟨rfl, rfl⟩)
  refine HC.out.mono ?_
  rintro e w8 ⟨rfl, hb8⟩
  have HB8 := hide (HB7.out.trans (hb8.mono HB7.out.size))
  have V4' := hide (V4.out.after hb8); clear V4; have V4 := V4'; clear V4'
  clear hb8 HC v4_0 v4_1 v4_2
  obtain ⟨v4_0, v4_1, v4_2⟩ := At.z3 V4.out.blk.at0
  have hc := (Sch.zero_in w8).may
  rw [aw_e9] at hc
  have HC := hide hc; clear hc
  go_wp2_with fail
  refine HC.out.mono ?_
  rintro e w9 ⟨rfl, hb9⟩
  go_wp2_with fail
  go_ret
  exact ⟨rfl, HB8.out.trans (hb9.mono HB8.out.size)⟩
end Go.Proofs.YtfojdjmeefglcaaDoor
