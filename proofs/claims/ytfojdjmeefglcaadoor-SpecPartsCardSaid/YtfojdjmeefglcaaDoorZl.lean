/-
  spec.Split: the place of each row's part among the unlike ones.
-/
import Derived.Test.YtfojdjmeefglcaaDoorZf
import Derived.Test.YtfojdjmeefglcaaDoorZk
namespace Go.Proofs.YtfojdjmeefglcaaDoor
open Go.RowKit

def splitR (id : Int) (fs : List Fld) (s : Sch) (vss : List (List Val)) : List Int × Int :=
  if specB id fs s = true ∧ vss.all (rowB s) = true then ((splitTo (vss.map (partT s fs))).2, 0) else ([], 1300)
theorem idx_map {α β : Type} (f : α → β) (p : β → Bool) (l : List α) : idx (fun a => p (f a)) l = idx p (l.map f) := by
  unfold idx
  rw [List.findIdx_map, List.length_map]
  rfl
theorem all_badS {α : Type} {p : α → Bool} {l : List α} {k : Nat} {x : α} (hx : l[k]? = some x) (h : p x = false) : l.all p = false := by
  cases e : l.all p with
  | false => rfl
  | true =>
    have := List.all_eq_true.1 e x (List.mem_of_getElem? hx)
    rw [h] at this; cases this
theorem all_take_succS {α : Type} {p : α → Bool} {l : List α} {k : Nat} {x : α} (hx : l[k]? = some x) (h : (l.take k).all p = true) (hp : p x = true) : (l.take (k + 1)).all p = true := by
  rw [List.take_add_one, hx, List.all_append, h]
  simpa using hp
theorem cells_of (A : Option Addr) (c n : Nat) (vs : List Val) (h : vs.length = n) : (RowA.mk A c vs).cells = [.slice A n c] := by simp [RowA.cells, h]
set_option maxRecDepth 100000 in
set_option maxHeartbeats 16000000 in
theorem pSplit_any {w1 w2 w3 : World} (id : Int) (fs : List Fld) (Af : Option Addr) (cf : Nat) (s : Sch) (As : Option Addr) (cs : Nat) (rs : List RowA) (Ar : Option Addr) (cr : Nat) (w : World)
    (hf : FsIn w1 fs Af cf) (hs : SchIn w2 s As cs) (hr : RowsIn w3 rs Ar cr) [f1 : Fut w1 w] [f2 : Fut w2 w] [f3 : Fut w3 w] (hfine : ∀ r ∈ rs, ∀ v ∈ r.vs, FineV v) :
    Calls Tryd.prog 55 #[.agg #[.int .i64 id, .slice Af fs.length cf], .agg #[.int .i64 s.id, .slice As s.cols.length cs, .int .i64 s.next], .slice Ar rs.length cr] w fun e w' => ∃ (A' : Option Addr) (c' : Nat), e = .returned (.tuple #[.slice A' (splitR id fs s (rs.map RowA.vs)).1.length c', .int .i64 (splitR id fs s (rs.map RowA.vs)).2]) ∧ Own w' w.heap.size 3 1 (.slice A' (splitR id fs s (rs.map RowA.vs)).1.length c') (intCells (splitR id fs s (rs.map RowA.vs)).1) ∧ Step w w' := by
  have z3 := f3.below.size
  have hrm := hr.hcapm
  obtain ⟨vss, hvss⟩ : ∃ vss, rs.map RowA.vs = vss := ⟨_, rfl⟩
  have HVSS := hide hvss
  obtain ⟨T, hT⟩ : ∃ T, splitR id fs s vss = T := ⟨_, rfl⟩
  have HT := hide hT
  rw [hvss, hT]
  clear hT hvss
  obtain ⟨W, hW⟩ : ∃ W, W = (w.alloc (.cells #[.int .i64 id, .slice Af fs.length cf] 88)).alloc (.cells #[.int .i64 s.id, .slice As s.cols.length cs, .int .i64 s.next] 24) := ⟨_, rfl⟩
  have SW : Step w W := by rw [hW]; exact Step.of
  have HPB : Hid (Blk W w.heap.size 88 [.int .i64 id, .slice Af fs.length cf]) := by rw [hW]; exact (Blk.new w [.int .i64 id, .slice Af fs.length cf] 88).alloc _
  have HSB : Hid (Blk W (w.heap.size + 1) 24 [.int .i64 s.id, .slice As s.cols.length cs, .int .i64 s.next]) := by rw [hW]; exact Blk.new_at (by simp) [.int .i64 s.id, .slice As s.cols.length cs, .int .i64 s.next] 24
  have HW := hide hW
  have hzW := SW.size
  clear hW
  have MS := hide (fun w' [Fut w1 w'] [Fut w2 w'] => pspec_any id fs Af cf s As cs w' hf hs)
  unfold Sch.val at MS
  have HFN := hide hfine
  clear hfine
  have HS3 := hide (hs.fut (w' := W))
  cases hsp : specB id fs s with
  | false =>
    have hE : Hid (T = ([], 1300)) := by show _ = _; rw [← HT.out, splitR, if_neg (by rw [hsp]; simp)]
    rw [hsp] at MS
    clear hsp
    go_enter Tryd.func55, Tryd.ntmps55
    go_wp2_with (go_at_call 50; (with_reducible refine (MS.out _).mono ?_); rintro e w4 ⟨rfl, hs4⟩)
    go_ret2
    exact ⟨none, 0, by rw [hE.out]; rfl, by rw [hE.out]; exact Own.nil_ _ _ _ _, Step.of⟩
  | true =>
    have HSPB := hide hsp
    have h4 : fs.length ≤ 4 := by
      have := hsp
      unfold specB at this
      simp only [Bool.and_eq_true, decide_eq_true_eq] at this
      exact this.2.2.2.1
    rw [hsp] at MS
    clear hsp
    go_enter Tryd.func55, Tryd.ntmps55
    go_wp2_with (go_at_call 50; (with_reducible refine (MS.out _).mono ?_); rintro e B4 ⟨rfl, hs4⟩; rw [← HW.out] at hs4)
    have hz4 := hs4.size
    go_loopw [8, 9, 11, 12, 13, 20] (fun parts out _ _ _ i wr => ∃ (k m : Nat) (A1 : Option Addr) (c1 : Nat) (ps : List RowA) (A2 : Option Addr) (c2 : Nat), k ≤ rs.length ∧ i = .int .i64 k ∧ parts = .slice A1 m c1 ∧ out = .slice A2 k c2 ∧ Hid ((vss.take k).all (rowB s) = true) ∧ Hid (ps.map RowA.vs = (splitTo ((vss.take k).map (partT s fs))).1) ∧ Hid (ps.length = m) ∧ m ≤ k ∧ Hid (∀ o ∈ ps, o.vs.length ≤ 4) ∧ OwnP wr B4.heap.size A1 m c1 ps ∧ Own wr B4.heap.size 3 1 (.slice A2 k c2) (intCells (splitTo ((vss.take k).map (partT s fs))).2) ∧ Step B4 wr) (fun _ _ _ _ _ i _ => rs.length - (intOf i).toNat)
    case atStart => exact ⟨0, 0, none, 0, [], none, 0, Nat.zero_le _, rfl, rfl, rfl, rfl, rfl, rfl, Nat.le_refl _, by intro o h; simp at h, ⟨Own.nil_ _ _ _ _, fun r h => by simp at h⟩, Own.nil_ _ _ _ _, Step.of⟩
    case round =>
      obtain ⟨k, m, A1, c1, ps, A2, c2, hk, rfl, rfl, rfl, HOK, HPM, HPL, hmk, HSM, hop, hoi, hst⟩ := hrel
      have HOP := hide hop; have HOI := hide hoi
      clear hop hoi
      obtain ⟨wo, rfl⟩ : ∃ x : World, x = wr := ⟨_, rfl⟩
      have hzo := hst.size
      by_cases hlt : k < rs.length
      · obtain ⟨b, off, hA, hb, r, hrk, hri, r0⟩ := hr.row (w' := wo) inferInstance hlt
        rw [hA]
        have hlb : b < wo.heap.size := by omega
        have hkl : (k : Int) < (rs.length : Int) := by omega
        have hk0 : (0 : Int) ≤ (k : Int) := by omega
        have HVK : Hid (vss[k]? = some r.vs) := by show _ = _; rw [← HVSS.out]; simp [hrk]
        have hrl := hri.hcapm
        have HFR := hide (HFN.out r (List.mem_of_getElem? hrk))
        have HRX := hide (Blk.new wo [.slice r.A r.vs.length r.cap] 70)
        have RW_ := hide (fun w' [Fut W w'] [Fut w3 w'] => prow_any (w.heap.size + 1) s As cs r.vs r.A r.cap w' HSB.out HS3.out hri.at_ (by omega))
        clear hrk hA
        cases hrb : rowB s r.vs with
        | false =>
          have hE : Hid (T = ([], 1300)) := by
            show _ = _
            rw [← HT.out, splitR, if_neg]
            intro hh
            rw [all_badS HVK.out hrb] at hh
            cases hh.2
          rw [hrb] at RW_
          clear hrb
          go_wp2_with (go_at_call 97; (with_reducible refine (RW_.out _).mono ?_); rintro e w5 ⟨rfl, hs5⟩)
          go_ret2
          exact ⟨none, 0, by rw [hE.out]; rfl, by rw [hE.out]; exact Own.nil_ _ _ _ _, Step.of⟩
        | true =>
          have HOK2 := hide (all_take_succS HVK.out HOK.out hrb)
          have PT := hide (fun w' [Fut W w'] [Fut w1 w'] [Fut w2 w'] [Fut w3 w'] => ppart_any w.heap.size (w.heap.size + 1) id fs Af cf s As cs r.vs r.A r.cap w' HPB.out HSB.out hf hs hri.at_ HFR.out HSPB.out hrb)
          rw [hrb] at RW_
          clear hrb
          have HST : Hid (splitTo ((vss.take (k + 1)).map (partT s fs)) = splitStep (splitTo ((vss.take k).map (partT s fs))) (partT s fs r.vs)) := by
            show _ = _
            rw [List.take_add_one, HVK.out, List.map_append]
            exact splitTo_snoc _ _
          have HOL : Hid ((partT s fs r.vs).length = fs.length) := partT_len s fs r.vs
          obtain ⟨own, hown⟩ : ∃ own, partT s fs r.vs = own := ⟨_, rfl⟩
          rw [hown] at PT HST HOL
          clear hown
          go_upto_region 11 with (first
            | (go_at_call 97; (with_reducible refine (RW_.out _).mono ?_); rintro e w5 ⟨rfl, hs5⟩; have b_ := HRX.out.fut (w' := w5); have x0 := At.z1 b_.at0; have lx := b_.lt; clear b_)
            | (go_at_call 98; (with_reducible refine (PT.out _).mono ?_); intro e w6 hr6; obtain ⟨A6, c6, rfl, ho6, hs6⟩ := hr6; have HO6 := hide ho6; clear ho6 x0 lx))
          have HG : Hid (Blk (w6.alloc (.cells #[.slice A6 fs.length c6] 68)) w6.heap.size 68 [.slice A6 own.length c6]) := by rw [HOL.out]; exact Blk.new w6 [.slice A6 fs.length c6] 68
          have HS6 := hide (HO6.out.sl (vals_fit own).len)
          have hz6 := (fut B4 w6).size
          have ix := fun w' [Fut wo w'] [Fut w6 w'] [Fut (w6.alloc (.cells #[.slice A6 fs.length c6] 68)) w'] => idxVss_any 101 #[.pointer (some ⟨w6.heap.size, 0, none⟩)] (fun o => eqVs o.vs own) A1 c1 ps w' (by rw [HPL.out]; omega) (HOP.out.out.sl (rows_fit ps).len) (fun args w1 => by kernel_rfl) (fun o ho w'' hfu => by
            have i1 : Fut (w6.alloc (.cells #[.slice A6 fs.length c6] 68)) w'' := Fut.tr (b := w') inferInstance hfu
            have i2 : Fut wo w'' := Fut.tr (b := w') inferInstance hfu
            have i3 : Fut w6 w'' := Fut.tr (b := w') inferInstance hfu
            exact psplit1_any w6.heap.size o own A6 c6 w'' HG.out ((HOP.out.rows o ho).sl (vals_fit o.vs).len) HS6.out (Nat.le_trans (HSM.out o ho) (by decide)))
          have HIX : Hid (idx (fun o : RowA => eqVs o.vs own) ps = idx (fun o => eqVs o own) (splitTo ((vss.take k).map (partT s fs))).1) := by show _ = _; rw [← HPM.out]; exact idx_map RowA.vs (fun o => eqVs o own) ps
          rw [HPL.out] at ix
          have HLI : Hid ((intCells (splitTo ((vss.take k).map (partT s fs))).2).length = k) := by
            show _ = _
            rw [intCells_len, (splitTo_len _).1]
            have : vss.length = rs.length := by rw [← HVSS.out]; simp
            simp
            omega
          rcases idx_cases (fun o : RowA => eqVs o.vs own) ps with hi | ⟨j, hi, hj⟩
          · rw [hi] at ix HIX
            have IX := hide ix
            clear ix hi
            have HS1 : Hid (splitStep (splitTo ((vss.take k).map (partT s fs))) own = ((splitTo ((vss.take k).map (partT s fs))).1 ++ [own], (splitTo ((vss.take k).map (partT s fs))).2 ++ [(m : Int)])) := by
              show _ = _
              rw [splitStep, ← HIX.out, if_pos (by decide), ← HPL.out, ← HPM.out]
              simp
            go_upto_region 14 with (go_at_call 100; (with_reducible refine (IX.out _).mono ?_); rintro e w7 ⟨rfl, hs7⟩)
            have g_ := HG.out.fut (w' := w7)
            rw [HOL.out] at g_
            have y0 := At.z1 g_.at0; have ly := g_.lt
            clear g_
            have HOW := hide ((HOP.out.out.fut (w' := w7)).alloc (.cells #[.slice A6 fs.length c6] 68))
            have HNw := hide (SlAt.one w7 1 [.slice A6 fs.length c6] 68)
            go_upto_region 15 with (at_builtin; go_loud (refine wpList_append_sl rfl (.tmp 36) (.tmp 38) 130 rfl eiVss (base := B4.heap.size) (xs := ps.map RowA.cells) rfl HOW.out (rows_fit _) (ys := [[.slice A6 fs.length c6]]) rfl (by simp) HNw.out (slice_fit A6 fs.length c6) (by rw [List.length_map, HPL.out]; show (m + 1) * 24 ≤ _; omega) (fut B4 (w7.alloc (.cells #[.slice A6 fs.length c6] 68))).size (N := m + 1) (by rw [List.length_map, HPL.out]; rfl) ?_; intro A9 c9 w9 hq1 hq2 hown9 hgr9 hbel9; have HP9 := hide (OwnP.app (r := ⟨A6, c6, own⟩) ((HOP.out.fut (w' := w7)).fut (w' := w7.alloc (.cells #[.slice A6 fs.length c6] 68))) (by show Own _ _ _ _ (.slice A6 own.length c6) _; rw [HOL.out]; exact (HO6.out.more (base' := B4.heap.size) (by have := (fut B4 w5).size; omega)).fut) (by rw [cells_of A6 c6 fs.length own HOL.out]; exact hown9) hgr9); have HOIN := hide (((HOI.out.fut (w' := w7)).alloc (.cells #[.slice A6 fs.length c6] 68)).grown_other hgr9 (own_ne ((HOI.out.fut (w' := w7)).alloc (.cells #[.slice A6 fs.length c6] 68)) HOW.out (by decide))); have F9 : Step B4 w9 := ⟨(fut B4 (w7.alloc (.cells #[.slice A6 fs.length c6] 68))).trans hbel9⟩; clear hown9 hgr9 hbel9))
            clear y0 ly
            have HNew := hide (SlAt.one w9 1 [.int .i64 (m : Int)] 3)
            have HOw := hide (HOIN.out.alloc (.cells #[.int .i64 (m : Int)] 3))
            go_wp2_with (at_builtin; go_loud (refine wpList_append_sl rfl (.tmp 40) (.tmp 42) 26 rfl eiInt (base := B4.heap.size) (xs := intCells (splitTo ((vss.take k).map (partT s fs))).2) rfl HOw.out (int_fit _) (ys := [[.int .i64 (m : Int)]]) rfl (by simp) HNew.out (int_fit [(m : Int)]) (by rw [HLI.out]; show (k + 1) * 8 ≤ _; omega) (fut B4 (w9.alloc (.cells #[.int .i64 (m : Int)] 3))).size (N := k + 1) (by rw [HLI.out]; rfl) ?_; intro A8 c8 w8 hq1 hq2 hown8 hgr8 hbel8; have H8 := hide hown8; have HB8 := hide hbel8; have HG8 := hide hgr8; clear hown8 hgr8 hbel8))
            go_roundw
            case rel =>
              refine ⟨k + 1, m + 1, A9, c9, (ps ++ [⟨A6, c6, own⟩]), A8, c8, by omega, by go_num, rfl, rfl, HOK2, (by show _ = _; rw [HST.out, HS1.out, List.map_append, HPM.out]; rfl), (by show _ = _; rw [List.length_append, HPL.out]; rfl), by omega, (by intro o ho; rcases List.mem_append.1 ho with h | h; exact HSM.out o h; simp at h; subst h; show own.length ≤ 4; rw [HOL.out]; exact h4), ?_, ?_, ⟨(fut B4 (w9.alloc (.cells #[.int .i64 (m : Int)] 3))).trans HB8.out⟩⟩
              · have hp := (HP9.out.fut (w' := w9.alloc (.cells #[.int .i64 (m : Int)] 3)))
                exact ⟨hp.out.grown_other HG8.out (own_ne hp.out HOw.out (by decide)), fun r hr => (hp.rows r hr).grown_other HG8.out (own_ne (hp.rows r hr) HOw.out (by decide))⟩
              · rw [HST.out, HS1.out]
                have := H8.out
                simpa [intCells] using this
            case measure => simp [intOf]; omega
          · rw [hi] at ix HIX
            have IX := hide ix
            clear ix hi
            have HS1 : Hid (splitStep (splitTo ((vss.take k).map (partT s fs))) own = ((splitTo ((vss.take k).map (partT s fs))).1, (splitTo ((vss.take k).map (partT s fs))).2 ++ [(j : Int)])) := by
              show _ = _
              rw [splitStep, ← HIX.out, if_neg (by omega)]
            have hj0 : (0 : Int) ≤ (j : Int) := by omega
            have hjm : j < m := by rw [← HPL.out]; exact hj
            clear hj
            go_upto_region 15 with (go_at_call 100; (with_reducible refine (IX.out _).mono ?_); rintro e w7 ⟨rfl, hs7⟩)
            have HOIN := hide (HOI.out.fut (w' := w7))
            have HNew := hide (SlAt.one w7 1 [.int .i64 (j : Int)] 3)
            have HOw := hide (HOIN.out.alloc (.cells #[.int .i64 (j : Int)] 3))
            go_wp2_with (at_builtin; go_loud (refine wpList_append_sl rfl (.tmp 40) (.tmp 42) 26 rfl eiInt (base := B4.heap.size) (xs := intCells (splitTo ((vss.take k).map (partT s fs))).2) rfl HOw.out (int_fit _) (ys := [[.int .i64 (j : Int)]]) rfl (by simp) HNew.out (int_fit [(j : Int)]) (by rw [HLI.out]; show (k + 1) * 8 ≤ _; omega) (fut B4 (w7.alloc (.cells #[.int .i64 (j : Int)] 3))).size (N := k + 1) (by rw [HLI.out]; rfl) ?_; intro A8 c8 w8 hq1 hq2 hown8 hgr8 hbel8; have H8 := hide hown8; have HB8 := hide hbel8; have HG8 := hide hgr8; clear hown8 hgr8 hbel8))
            go_roundw
            case rel =>
              refine ⟨k + 1, m, A1, c1, ps, A8, c8, by omega, by go_num, rfl, rfl, HOK2, (by show _ = _; rw [HST.out, HS1.out]; exact HPM.out), HPL.out, by omega, HSM.out, ?_, ?_, ⟨(fut B4 (w7.alloc (.cells #[.int .i64 (j : Int)] 3))).trans HB8.out⟩⟩
              · have hp := (HOP.out.fut (w' := w7.alloc (.cells #[.int .i64 (j : Int)] 3)))
                exact ⟨hp.out.grown_other HG8.out (own_ne hp.out HOw.out (by decide)), fun r hr => (hp.rows r hr).grown_other HG8.out (own_ne (hp.rows r hr) HOw.out (by decide))⟩
              · rw [HST.out, HS1.out]
                have := H8.out
                simpa [intCells] using this
            case measure => simp [intOf]; omega
      · obtain rfl : k = rs.length := by omega
        have e1 : vss.take rs.length = vss := by rw [← HVSS.out, show rs.length = (rs.map RowA.vs).length by simp, List.take_length]
        rw [e1] at HOK HOI
        have hE : Hid (T = ((splitTo (vss.map (partT s fs))).2, 0)) := by show _ = _; rw [← HT.out, splitR, if_pos ⟨HSPB.out, HOK.out⟩]
        have hll : (splitTo (vss.map (partT s fs))).2.length = rs.length := by rw [(splitTo_len _).1, List.length_map, ← HVSS.out]; simp
        have HLL := hide hll
        clear hll e1
        go_wp2_with fail
        go_ret2
        exact ⟨A2, c2, by rw [hE.out]; show _ = Ending.returned (.tuple #[.slice A2 (splitTo (vss.map (partT s fs))).2.length c2, _]); rw [HLL.out]; rfl, by rw [hE.out]; show Own _ _ _ _ (.slice A2 (splitTo (vss.map (partT s fs))).2.length c2) _; rw [HLL.out]; exact HOI.out.more (by omega), Step.of⟩
end Go.Proofs.YtfojdjmeefglcaaDoor
