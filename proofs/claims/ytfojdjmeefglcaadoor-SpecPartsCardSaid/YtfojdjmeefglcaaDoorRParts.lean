/-
  The law SpecParts answers true for every input, and its card holds.
-/
import Derived.Test.YtfojdjmeefglcaaDoorOpSch
import Derived.Test.YtfojdjmeefglcaaDoorOpRf
import Derived.Test.YtfojdjmeefglcaaDoorZg
import Derived.Test.YtfojdjmeefglcaaDoorLr
import Derived.Test.YtfojdjmeefglcaaDoorFlFld
import Derived.Test.YtfojdjmeefglcaaDoorZr
import Derived.Test.YtfojdjmeefglcaaDoorZl
import Derived.Test.YtfojdjmeefglcaaDoorZo
namespace Go.Proofs.YtfojdjmeefglcaaDoor
open Go.RowKit

/-- A part as the document's Alike wants it. -/
def Neat (vs : List Val) : Prop := vs.length ≤ 4 ∧ (∀ v ∈ vs, clean v = v) ∧ ∀ v ∈ vs, v.s.size ≤ 9223372036854775807
theorem alike_eqVs {a b : List Val} (ha : ∀ v ∈ a, clean v = v) (hb : ∀ v ∈ b, clean v = v) : alikeB a b = eqVs a b := by
  rw [Bool.eq_iff_iff, alikeB_iff ha hb, eqVs_iff]
theorem fi_end {α : Type} {p : α → Bool} {l : List α} (h : l.length ≤ l.findIdx p) : idx p l = -1 := by
  rw [idx, if_neg (by omega)]
set_option maxRecDepth 100000 in
set_option maxHeartbeats 16000000 in
theorem rSplit_any {w1 w2 w3 : World} (id : Int) (fs : List Fld) (Af : Option Addr) (cf : Nat) (s : Sch) (As : Option Addr) (cs : Nat) (rs : List RowA) (Ar : Option Addr) (cr : Nat) (w : World)
    (hf : FsIn w1 fs Af cf) (hs : SchIn w2 s As cs) (hr : RowsIn w3 rs Ar cr) [f1 : Fut w1 w] [f2 : Fut w2 w] [f3 : Fut w3 w] (hfine : ∀ r ∈ rs, ∀ v ∈ r.vs, FineV v) :
    Calls Tryd.prog 56 #[.agg #[.int .i64 id, .slice Af fs.length cf], .agg #[.int .i64 s.id, .slice As s.cols.length cs, .int .i64 s.next], .slice Ar rs.length cr] w fun e w' => ∃ (A' : Option Addr) (c' : Nat), e = .returned (.tuple #[.slice A' (splitR id fs s (rs.map RowA.vs)).1.length c', .int .i64 (splitR id fs s (rs.map RowA.vs)).2]) ∧ Own w' w.heap.size 3 1 (.slice A' (splitR id fs s (rs.map RowA.vs)).1.length c') (intCells (splitR id fs s (rs.map RowA.vs)).1) ∧ Step w w' := by
  have z3 := f3.below.size
  have hrm := hr.hcapm
  obtain ⟨vss, hvss⟩ : ∃ vss, rs.map RowA.vs = vss := ⟨_, rfl⟩
  have HVSS := hide hvss
  obtain ⟨T, hT⟩ : ∃ T, splitR id fs s vss = T := ⟨_, rfl⟩
  have HT := hide hT
  rw [hvss, hT]
  clear hT hvss
  obtain ⟨W, hW⟩ : ∃ W, W = (w.alloc (.cells #[.int .i64 id, .slice Af fs.length cf] 88)).alloc (.cells #[.int .i64 s.id, .slice As s.cols.length cs, .int .i64 s.next] 24) := ⟨_, rfl⟩
  have SW : Step w W := by rw [hW]; exact Step.of
  have HPB : Hid (Blk W w.heap.size 88 [.int .i64 id, .slice Af fs.length cf]) := by rw [hW]; exact (Blk.new w [.int .i64 id, .slice Af fs.length cf] 88).alloc _
  have HSB : Hid (Blk W (w.heap.size + 1) 24 [.int .i64 s.id, .slice As s.cols.length cs, .int .i64 s.next]) := by rw [hW]; exact Blk.new_at (by simp) [.int .i64 s.id, .slice As s.cols.length cs, .int .i64 s.next] 24
  have HW := hide hW
  have hzW := SW.size
  clear hW
  have MS := hide (fun w' [Fut w1 w'] [Fut w2 w'] => rspec_any id fs Af cf s As cs w' hf hs)
  unfold Sch.val at MS
  have HFN := hide hfine
  clear hfine
  cases hsp : specB id fs s with
  | false =>
    have hE : Hid (T = ([], 1300)) := by show _ = _; rw [← HT.out, splitR, if_neg (by rw [hsp]; simp)]
    rw [hsp] at MS
    clear hsp
    go_enter Tryd.func56, Tryd.ntmps56
    go_wp2_with (go_at_call 51; (with_reducible refine (MS.out _).mono ?_); rintro e w4 ⟨rfl, hs4⟩)
    go_ret2
    exact ⟨none, 0, by rw [hE.out]; rfl, by rw [hE.out]; exact Own.nil_ _ _ _ _, Step.of⟩
  | true =>
    have HSPB := hide hsp
    have h4 : fs.length ≤ 4 := by
      have := hsp
      unfold specB at this
      simp only [Bool.and_eq_true, decide_eq_true_eq] at this
      exact this.2.2.2.1
    rw [hsp] at MS
    clear hsp
    go_enter Tryd.func56, Tryd.ntmps56
    go_wp2_with (go_at_call 51; (with_reducible refine (MS.out _).mono ?_); rintro e B4 ⟨rfl, hs4⟩; rw [← HW.out] at hs4)
    have hz4 := hs4.size
    go_loopw [8, 9, 10, 11, 12, 13] (fun parts out i _ _ _ wr => ∃ (k m : Nat) (A1 : Option Addr) (c1 : Nat) (ps : List RowA) (A2 : Option Addr) (c2 : Nat), k ≤ rs.length ∧ i = .int .i64 k ∧ parts = .slice A1 m c1 ∧ out = .slice A2 k c2 ∧ Hid ((vss.take k).all (rowB s) = true) ∧ Hid (ps.map RowA.vs = (splitTo ((vss.take k).map (partT s fs))).1) ∧ Hid (ps.length = m) ∧ m ≤ k ∧ Hid (∀ o ∈ ps, Neat o.vs) ∧ OwnP wr B4.heap.size A1 m c1 ps ∧ Own wr B4.heap.size 3 1 (.slice A2 k c2) (intCells (splitTo ((vss.take k).map (partT s fs))).2) ∧ Step B4 wr) (fun _ _ i _ _ _ _ => rs.length - (intOf i).toNat)
    case atStart => exact ⟨0, 0, none, 0, [], none, 0, Nat.zero_le _, rfl, rfl, rfl, rfl, rfl, rfl, Nat.le_refl _, by intro o h; simp at h, ⟨Own.nil_ _ _ _ _, fun r h => by simp at h⟩, Own.nil_ _ _ _ _, Step.of⟩
    case round =>
      obtain ⟨k, m, A1, c1, ps, A2, c2, hk, rfl, rfl, rfl, HOK, HPM, HPL, hmk, HSM, hop, hoi, hst⟩ := hrel
      have HOP := hide hop; have HOI := hide hoi
      clear hop hoi
      obtain ⟨wo, rfl⟩ : ∃ x : World, x = wr := ⟨_, rfl⟩
      have hzo := hst.size
      by_cases hlt : k < rs.length
      · obtain ⟨b, off, hA, hb, r, hrk, hri, r0⟩ := hr.row (w' := wo) inferInstance hlt
        rw [hA]
        have hlb : b < wo.heap.size := by omega
        have hkl : (k : Int) < (rs.length : Int) := by omega
        have hk0 : (0 : Int) ≤ (k : Int) := by omega
        have HVK : Hid (vss[k]? = some r.vs) := by show _ = _; rw [← HVSS.out]; simp [hrk]
        have hrl := hri.hcapm
        have HFR := hide (HFN.out r (List.mem_of_getElem? hrk))
        have PT := hide (fun w' [Fut w1 w'] [Fut w2 w'] [Fut w3 w'] => rPart_any id fs Af cf s As cs r.vs r.A r.cap w' hf hs hri.at_ HFR.out (by omega))
        have p_ := HPB.out.fut (w' := wo); obtain ⟨p0, p1⟩ := At.z2 p_.at0; have lp := p_.lt
        have q_ := HSB.out.fut (w' := wo); obtain ⟨q0, q1, q2⟩ := At.z3 q_.at0; have lq := q_.lt
        clear hrk hA p_ q_
        cases hrb : rowB s r.vs with
        | false =>
          have hE : Hid (T = ([], 1300)) := by
            show _ = _
            rw [← HT.out, splitR, if_neg]
            intro hh
            rw [all_badS HVK.out hrb] at hh
            cases hh.2
          rw [show partR id fs s r.vs = ([], 1300) by rw [partR, if_neg (by rw [hrb]; simp)]] at PT
          simp only [List.length_nil] at PT
          clear hrb
          go_upto_region 8 with (fail)
          refine wp_region_held_drew (S := (fun w' => Step wo w' ∧ (∀ b o, b < wo.heap.size → w'.cell? ⟨b, o, none⟩ = wo.cell? ⟨b, o, none⟩))) (by kernel_rfl) (by (try dsimp only); (first | exact ⟨hS1, hS2⟩ | exact ⟨Step.of, (bcell (fut _ _)).1⟩)) (fun hHeld => ?_)
          refine wpAnyH_take (i := 0) (oi := ⟨some 25, _, _, _, _, _⟩) (v := ?_) rfl (by kernel_rfl) (by kernel_rfl) (by kernel_rfl) (fun _ _ _ h => h) (Or.inl ⟨by rfl, ?_⟩) (by assumption) ?_
          rotate_left
          · ((intro w hSw); (try dsimp only at hSw); go_simp; (try with_reducible rfl))
          (try simp only [Act.put, List.setIfInBounds_toArray, List.set_cons_zero, List.set_cons_succ])
          refine wpAnyH_take (i := 1) (oi := ⟨some 26, _, _, _, _, _⟩) (v := ?_) rfl (by kernel_rfl) (by kernel_rfl) (by kernel_rfl) (fun _ _ _ h => h) (Or.inl ⟨by rfl, ?_⟩) (by assumption) ?_
          rotate_left
          · ((intro w hSw); (try dsimp only at hSw); go_simp; (try with_reducible rfl))
          (try simp only [Act.put, List.setIfInBounds_toArray, List.set_cons_zero, List.set_cons_succ])
          refine wpAnyH_take (i := 2) (oi := ⟨some 27, _, _, _, _, _⟩) (v := ?_) rfl (by kernel_rfl) (by kernel_rfl) (by kernel_rfl) (fun _ _ _ h => h) (Or.inl ⟨by rfl, ?_⟩) (by assumption) ?_
          rotate_left
          · ((intro w hSw); (try dsimp only at hSw); go_simp; (try with_reducible rfl))
          (try simp only [Act.put, List.setIfInBounds_toArray, List.set_cons_zero, List.set_cons_succ])
          refine wpAnyH_take (i := 3) (oi := ⟨some 28, _, _, _, _, _⟩) (v := ?_) rfl (by kernel_rfl) (by kernel_rfl) (by kernel_rfl) (fun _ _ _ h => h) (Or.inl ⟨by rfl, ?_⟩) (by assumption) ?_
          rotate_left
          · ((intro w hSw); (try dsimp only at hSw); go_simp; (try with_reducible rfl))
          (try simp only [Act.put, List.setIfInBounds_toArray, List.set_cons_zero, List.set_cons_succ])
          refine wpAnyH_take (i := 4) (oi := ⟨some 29, _, _, _, _, _⟩) (v := ?_) rfl (by kernel_rfl) (by kernel_rfl) (by kernel_rfl) (fun _ _ _ h => h) (Or.inl ⟨by rfl, ?_⟩) (by assumption) ?_
          rotate_left
          · ((intro w hSw); (try dsimp only at hSw); go_simp; (try with_reducible rfl))
          (try simp only [Act.put, List.setIfInBounds_toArray, List.set_cons_zero, List.set_cons_succ])
          refine wpAnyH_take (i := 5) (oi := ⟨some 30, _, _, _, _, _⟩) (v := ?_) rfl (by kernel_rfl) (by kernel_rfl) (by kernel_rfl) (fun _ _ _ h => h) (Or.inl ⟨by rfl, ?_⟩) (by assumption) ?_
          rotate_left
          · ((intro w hSw); (try dsimp only at hSw); go_simp; (try with_reducible rfl))
          (try simp only [Act.put, List.setIfInBounds_toArray, List.set_cons_zero, List.set_cons_succ])
          refine wpAnyH_ready (rs := [6]) (by kernel_rfl) (by simp) ?_
          refine AllReadyH.cons (o := ⟨some 31, _, _, _, _, _⟩) rfl (fun K hK => ?_) AllReadyH.nil
          obtain ⟨hS1, hS2⟩ := hHeld
          go_simp
          (go_at_call 53; (with_reducible refine (PT.out _).mono ?_); rintro e w6 ⟨A6, c6, rfl, ho6, hs6⟩; have HO6 := hide ho6; clear ho6)
          refine hK.out _ _ (by (try dsimp only); (first | exact ⟨hS1, hS2⟩ | exact ⟨Step.of, (bcell (fut _ _)).1⟩)) (fun hHeld => ?_)
          clear hK K
          (try simp only [Act.put, List.setIfInBounds_toArray, List.set_cons_zero, List.set_cons_succ])
          refine wpAnyH_take (i := 7) (oi := ⟨some 24, _, _, _, _, _⟩) (v := ?_) rfl (by kernel_rfl) (by kernel_rfl) (by kernel_rfl) (fun _ _ _ h => h) (Or.inl ⟨by rfl, ?_⟩) (by assumption) ?_
          rotate_left
          · ((intro w hSw); (try dsimp only at hSw); go_simp; (try with_reducible rfl))
          (try simp only [Act.put, List.setIfInBounds_toArray, List.set_cons_zero, List.set_cons_succ])
          refine wpAnyH_take (i := 8) (oi := ⟨some 32, _, _, _, _, _⟩) (v := ?_) rfl (by kernel_rfl) (by kernel_rfl) (by kernel_rfl) (fun _ _ _ h => h) (Or.inl ⟨by rfl, ?_⟩) (by assumption) ?_
          rotate_left
          · ((intro w hSw); (try dsimp only at hSw); go_simp; (try with_reducible rfl))
          (try simp only [Act.put, List.setIfInBounds_toArray, List.set_cons_zero, List.set_cons_succ])
          refine wpAnyH_take (i := 9) (oi := ⟨some 33, _, _, _, _, _⟩) (v := ?_) rfl (by kernel_rfl) (by kernel_rfl) (by kernel_rfl) (fun _ _ _ h => h) (Or.inl ⟨by rfl, ?_⟩) (by assumption) ?_
          rotate_left
          · ((intro w hSw); (try dsimp only at hSw); go_simp; (try with_reducible rfl))
          (try simp only [Act.put, List.setIfInBounds_toArray, List.set_cons_zero, List.set_cons_succ])
          refine wpAnyH_take (i := 10) (oi := ⟨some 11, _, _, _, _, _⟩) (v := ?_) rfl (by kernel_rfl) (by kernel_rfl) (by kernel_rfl) (fun _ _ _ h => h) (Or.inl ⟨by rfl, ?_⟩) (by assumption) ?_
          rotate_left
          · ((intro w hSw); (try dsimp only at hSw); go_simp; (try with_reducible rfl))
          (try simp only [Act.put, List.setIfInBounds_toArray, List.set_cons_zero, List.set_cons_succ])
          refine wpAnyH_take (i := 11) (oi := ⟨some 12, _, _, _, _, _⟩) (v := ?_) rfl (by kernel_rfl) (by kernel_rfl) (by kernel_rfl) (fun _ _ _ h => h) (Or.inl ⟨by rfl, ?_⟩) (by assumption) ?_
          rotate_left
          · ((intro w hSw); (try dsimp only at hSw); go_simp; (try with_reducible rfl))
          (try simp only [Act.put, List.setIfInBounds_toArray, List.set_cons_zero, List.set_cons_succ])
          refine wpAnyH_done (by kernel_rfl) ?_ _
          go_wp2_with fail
          go_ret2
          exact ⟨none, 0, by rw [hE.out]; rfl, by rw [hE.out]; exact Own.nil_ _ _ _ _, Step.of⟩
        | true =>
          have HOK2 := hide (all_take_succS HVK.out HOK.out hrb)
          have HST : Hid (splitTo ((vss.take (k + 1)).map (partT s fs)) = splitStep (splitTo ((vss.take k).map (partT s fs))) (partT s fs r.vs)) := by
            show _ = _
            rw [List.take_add_one, HVK.out, List.map_append]
            exact splitTo_snoc _ _
          have HOL : Hid ((partT s fs r.vs).length = fs.length) := partT_len s fs r.vs
          have HNT : Hid (Neat (partT s fs r.vs)) := ⟨by rw [partT_len]; exact h4, partT_clean s fs r.vs, partT_size s fs r.vs HFR.out⟩
          rw [show partR id fs s r.vs = (partT s fs r.vs, 0) by rw [partR, if_pos ⟨HSPB.out, hrb⟩]] at PT
          simp only [partT_len] at PT
          clear hrb
          obtain ⟨own, hown⟩ : ∃ own, partT s fs r.vs = own := ⟨_, rfl⟩
          rw [hown] at PT HST HOL HNT
          clear hown
          go_upto_region 8 with (fail)
          refine wp_region_held_drew (S := (fun w' => Step wo w' ∧ (∀ b o, b < wo.heap.size → w'.cell? ⟨b, o, none⟩ = wo.cell? ⟨b, o, none⟩))) (by kernel_rfl) (by (try dsimp only); (first | exact ⟨hS1, hS2⟩ | exact ⟨Step.of, (bcell (fut _ _)).1⟩)) (fun hHeld => ?_)
          refine wpAnyH_take (i := 0) (oi := ⟨some 25, _, _, _, _, _⟩) (v := ?_) rfl (by kernel_rfl) (by kernel_rfl) (by kernel_rfl) (fun _ _ _ h => h) (Or.inl ⟨by rfl, ?_⟩) (by assumption) ?_
          rotate_left
          · ((intro w hSw); (try dsimp only at hSw); go_simp; (try with_reducible rfl))
          (try simp only [Act.put, List.setIfInBounds_toArray, List.set_cons_zero, List.set_cons_succ])
          refine wpAnyH_take (i := 1) (oi := ⟨some 26, _, _, _, _, _⟩) (v := ?_) rfl (by kernel_rfl) (by kernel_rfl) (by kernel_rfl) (fun _ _ _ h => h) (Or.inl ⟨by rfl, ?_⟩) (by assumption) ?_
          rotate_left
          · ((intro w hSw); (try dsimp only at hSw); go_simp; (try with_reducible rfl))
          (try simp only [Act.put, List.setIfInBounds_toArray, List.set_cons_zero, List.set_cons_succ])
          refine wpAnyH_take (i := 2) (oi := ⟨some 27, _, _, _, _, _⟩) (v := ?_) rfl (by kernel_rfl) (by kernel_rfl) (by kernel_rfl) (fun _ _ _ h => h) (Or.inl ⟨by rfl, ?_⟩) (by assumption) ?_
          rotate_left
          · ((intro w hSw); (try dsimp only at hSw); go_simp; (try with_reducible rfl))
          (try simp only [Act.put, List.setIfInBounds_toArray, List.set_cons_zero, List.set_cons_succ])
          refine wpAnyH_take (i := 3) (oi := ⟨some 28, _, _, _, _, _⟩) (v := ?_) rfl (by kernel_rfl) (by kernel_rfl) (by kernel_rfl) (fun _ _ _ h => h) (Or.inl ⟨by rfl, ?_⟩) (by assumption) ?_
          rotate_left
          · ((intro w hSw); (try dsimp only at hSw); go_simp; (try with_reducible rfl))
          (try simp only [Act.put, List.setIfInBounds_toArray, List.set_cons_zero, List.set_cons_succ])
          refine wpAnyH_take (i := 4) (oi := ⟨some 29, _, _, _, _, _⟩) (v := ?_) rfl (by kernel_rfl) (by kernel_rfl) (by kernel_rfl) (fun _ _ _ h => h) (Or.inl ⟨by rfl, ?_⟩) (by assumption) ?_
          rotate_left
          · ((intro w hSw); (try dsimp only at hSw); go_simp; (try with_reducible rfl))
          (try simp only [Act.put, List.setIfInBounds_toArray, List.set_cons_zero, List.set_cons_succ])
          refine wpAnyH_take (i := 5) (oi := ⟨some 30, _, _, _, _, _⟩) (v := ?_) rfl (by kernel_rfl) (by kernel_rfl) (by kernel_rfl) (fun _ _ _ h => h) (Or.inl ⟨by rfl, ?_⟩) (by assumption) ?_
          rotate_left
          · ((intro w hSw); (try dsimp only at hSw); go_simp; (try with_reducible rfl))
          (try simp only [Act.put, List.setIfInBounds_toArray, List.set_cons_zero, List.set_cons_succ])
          refine wpAnyH_ready (rs := [6]) (by kernel_rfl) (by simp) ?_
          refine AllReadyH.cons (o := ⟨some 31, _, _, _, _, _⟩) rfl (fun K hK => ?_) AllReadyH.nil
          obtain ⟨hS1, hS2⟩ := hHeld
          go_simp
          (go_at_call 53; (with_reducible refine (PT.out _).mono ?_); rintro e w6 ⟨A6, c6, rfl, ho6, hs6⟩; have HO6 := hide ho6; clear ho6)
          refine hK.out _ _ (by (try dsimp only); (first | exact ⟨hS1, hS2⟩ | exact ⟨Step.of, (bcell (fut _ _)).1⟩)) (fun hHeld => ?_)
          clear hK K
          (try simp only [Act.put, List.setIfInBounds_toArray, List.set_cons_zero, List.set_cons_succ])
          refine wpAnyH_take (i := 7) (oi := ⟨some 24, _, _, _, _, _⟩) (v := ?_) rfl (by kernel_rfl) (by kernel_rfl) (by kernel_rfl) (fun _ _ _ h => h) (Or.inl ⟨by rfl, ?_⟩) (by assumption) ?_
          rotate_left
          · ((intro w hSw); (try dsimp only at hSw); go_simp; (try with_reducible rfl))
          (try simp only [Act.put, List.setIfInBounds_toArray, List.set_cons_zero, List.set_cons_succ])
          refine wpAnyH_take (i := 8) (oi := ⟨some 32, _, _, _, _, _⟩) (v := ?_) rfl (by kernel_rfl) (by kernel_rfl) (by kernel_rfl) (fun _ _ _ h => h) (Or.inl ⟨by rfl, ?_⟩) (by assumption) ?_
          rotate_left
          · ((intro w hSw); (try dsimp only at hSw); go_simp; (try with_reducible rfl))
          (try simp only [Act.put, List.setIfInBounds_toArray, List.set_cons_zero, List.set_cons_succ])
          refine wpAnyH_take (i := 9) (oi := ⟨some 33, _, _, _, _, _⟩) (v := ?_) rfl (by kernel_rfl) (by kernel_rfl) (by kernel_rfl) (fun _ _ _ h => h) (Or.inl ⟨by rfl, ?_⟩) (by assumption) ?_
          rotate_left
          · ((intro w hSw); (try dsimp only at hSw); go_simp; (try with_reducible rfl))
          (try simp only [Act.put, List.setIfInBounds_toArray, List.set_cons_zero, List.set_cons_succ])
          refine wpAnyH_take (i := 10) (oi := ⟨some 11, _, _, _, _, _⟩) (v := ?_) rfl (by kernel_rfl) (by kernel_rfl) (by kernel_rfl) (fun _ _ _ h => h) (Or.inl ⟨by rfl, ?_⟩) (by assumption) ?_
          rotate_left
          · ((intro w hSw); (try dsimp only at hSw); go_simp; (try with_reducible rfl))
          (try simp only [Act.put, List.setIfInBounds_toArray, List.set_cons_zero, List.set_cons_succ])
          refine wpAnyH_take (i := 11) (oi := ⟨some 12, _, _, _, _, _⟩) (v := ?_) rfl (by kernel_rfl) (by kernel_rfl) (by kernel_rfl) (fun _ _ _ h => h) (Or.inl ⟨by rfl, ?_⟩) (by assumption) ?_
          rotate_left
          · ((intro w hSw); (try dsimp only at hSw); go_simp; (try with_reducible rfl))
          (try simp only [Act.put, List.setIfInBounds_toArray, List.set_cons_zero, List.set_cons_succ])
          refine wpAnyH_done (by kernel_rfl) ?_ _
          clear hHeld p0 p1 lp q0 q1 q2 lq r0 hlb
          have HS6 := hide (HO6.out.sl (vals_fit own).len)
          have hz6 := (fut B4 w6).size
          have hz6o := (fut wo w6).size
          have hbo : B4.heap.size ≤ wo.drew.heap.size := (fut B4 wo).size
          have HLI : Hid ((intCells (splitTo ((vss.take k).map (partT s fs))).2).length = k) := by
            show _ = _
            rw [intCells_len, (splitTo_len _).1]
            have : vss.length = rs.length := by rw [← HVSS.out]; simp
            simp
            omega
          have HPS := hide (HOP.out.out.sl (rows_fit ps).len)
          have HIX : Hid (idx (fun o : RowA => eqVs o.vs own) ps = idx (fun o => eqVs o own) (splitTo ((vss.take k).map (partT s fs))).1) := by show _ = _; rw [← HPM.out]; exact idx_map RowA.vs (fun o => eqVs o own) ps
          go_upto_region 11 with (fail)
          go_wp2_with fail
          go_loopw [13] (fun j wr => ∃ q : Nat, q ≤ m ∧ j = .int .i64 q ∧ Hid (q ≤ ps.findIdx (fun o : RowA => eqVs o.vs own)) ∧ Step w6 wr) (fun j _ => m - (intOf j).toNat)
          case atStart => exact ⟨0, Nat.zero_le _, rfl, Nat.zero_le _, Step.of⟩
          case round =>
            obtain ⟨q, hq, rfl, HQI, hst7⟩ := hrel
            obtain ⟨wi, rfl⟩ : ∃ x : World, x = wr := ⟨_, rfl⟩
            have hzi := hst7.size
            by_cases hqm : q < m
            · have hqp : q < ps.length := by rw [HPL.out]; exact hqm
              obtain ⟨b3, o3, rfl, hb3, hc3⟩ := HPS.out.elem (w' := wi) inferInstance (k := q) (by rw [List.length_map]; exact hqp)
              obtain ⟨o, ho⟩ : ∃ o, ps[q]? = some o := ⟨_, List.getElem?_eq_getElem hqp⟩
              have x0 := At.l1 (hc3 q o.cells (by simp [ho]))
              simp only [Nat.mul_one] at x0
              have hmem := List.mem_of_getElem? ho
              have hne := HSM.out o hmem
              have HSO := hide ((HOP.out.rows o hmem).sl (vals_fit o.vs).len)
              have AK := fun w' [Fut wo w'] [Fut w6 w'] => alike_any o.vs own o.A A6 o.cap c6 w' HSO.out HS6.out (Nat.le_trans hne.1 (by decide)) hne.2.2 HNT.out.2.2
              rw [HOL.out, alike_eqVs hne.2.1 HNT.out.2.1] at AK
              have l3 : b3 < wi.heap.size := by omega
              have hqml : (q : Int) < (m : Int) := by omega
              have hq0 : (0 : Int) ≤ (q : Int) := by omega
              have hoe : ps[q] = o := by rw [List.getElem?_eq_getElem hqp] at ho; exact Option.some.inj ho
              clear hc3 ho
              cases hpq : eqVs o.vs own with
              | false =>
                rw [hpq] at AK
                have HAK := hide AK
                have HQ2 := hide (fi_miss (fun o : RowA => eqVs o.vs own) ps q hqp HQI.out (by rw [hoe]; exact hpq))
                clear AK hpq hoe
                go_wp2_with (go_at_call 59; (with_reducible refine (HAK.out _).mono ?_); rintro e w8 ⟨rfl, hs8⟩)
                go_roundw
                case rel => exact ⟨q + 1, by omega, by go_num, HQ2, Step.of⟩
                case measure => simp [intOf]; omega
              | true =>
                rw [hpq] at AK
                have HAK := hide AK
                have HI := hide (fi_hit (fun o : RowA => eqVs o.vs own) ps q hqp HQI.out (by rw [hoe]; exact hpq))
                have HJ : Hid (idx (fun o => eqVs o own) (splitTo ((vss.take k).map (partT s fs))).1 = (q : Int)) := by show _ = _; rw [← HIX.out, idx, HI.out, if_pos hqp]
                have HS1 : Hid (splitStep (splitTo ((vss.take k).map (partT s fs))) own = ((splitTo ((vss.take k).map (partT s fs))).1, (splitTo ((vss.take k).map (partT s fs))).2 ++ [(q : Int)])) := by
                  show _ = _
                  rw [splitStep, HJ.out, if_neg (by omega)]
                have hqne : ((q : Int) = (m : Int)) = False := eq_false (by omega)
                clear AK hpq hoe
                go_upto_region 16 with (go_at_call 59; (with_reducible refine (HAK.out _).mono ?_); rintro e wK ⟨rfl, hsK⟩)
                clear x0 l3
                have HOIN := hide (HOI.out.fut (w' := wK))
                have HNew := hide (SlAt.one wK 1 [.int .i64 (q : Int)] 3)
                have HOw := hide (HOIN.out.alloc (.cells #[.int .i64 (q : Int)] 3))
                go_wp2_with (at_builtin; go_loud (refine wpList_append_sl rfl (.tmp 60) (.tmp 62) 26 rfl eiInt (base := B4.heap.size) (xs := intCells (splitTo ((vss.take k).map (partT s fs))).2) rfl HOw.out (int_fit _) (ys := [[.int .i64 (q : Int)]]) rfl (by simp) HNew.out (int_fit [(q : Int)]) (by rw [HLI.out]; show (k + 1) * 8 ≤ _; omega) (fut B4 (wK.alloc (.cells #[.int .i64 (q : Int)] 3))).size (N := k + 1) (by rw [HLI.out]; rfl) ?_; intro A8 c8 w8 hq1 hq2 hown8 hgr8 hbel8; have H8 := hide hown8; have HB8 := hide hbel8; have HG8 := hide hgr8; clear hown8 hgr8 hbel8))
                go_roundw
                case rel =>
                  refine ⟨k + 1, m, (some ⟨b3, o3, none⟩), c1, ps, A8, c8, by omega, by go_num, rfl, rfl, HOK2, (by show _ = _; rw [HST.out, HS1.out]; exact HPM.out), HPL.out, by omega, HSM.out, ?_, ?_, ⟨(fut B4 (wK.alloc (.cells #[.int .i64 (q : Int)] 3))).trans HB8.out⟩⟩
                  · have hp := (HOP.out.fut (w' := wK.alloc (.cells #[.int .i64 (q : Int)] 3)))
                    exact ⟨hp.out.grown_other HG8.out (own_ne hp.out HOw.out (by decide)), fun r hr => (hp.rows r hr).grown_other HG8.out (own_ne (hp.rows r hr) HOw.out (by decide))⟩
                  · rw [HST.out, HS1.out]
                    have := H8.out
                    simpa [intCells] using this
                case measure => simp [intOf]; omega
            · obtain rfl : q = m := by omega
              have HJ : Hid (idx (fun o => eqVs o own) (splitTo ((vss.take k).map (partT s fs))).1 = -1) := by show _ = _; rw [← HIX.out]; exact fi_end (by rw [HPL.out]; exact HQI.out)
              have HS1 : Hid (splitStep (splitTo ((vss.take k).map (partT s fs))) own = ((splitTo ((vss.take k).map (partT s fs))).1 ++ [own], (splitTo ((vss.take k).map (partT s fs))).2 ++ [(q : Int)])) := by
                show _ = _
                rw [splitStep, HJ.out, if_pos (by decide), ← HPL.out, ← HPM.out]
                simp
              have HOW := hide ((HOP.out.out.fut (w' := wi)).alloc (.cells #[.slice A6 fs.length c6] 68))
              have HNw := hide (SlAt.one wi 1 [.slice A6 fs.length c6] 68)
              go_upto_region 16 with (at_builtin; go_loud (refine wpList_append_sl rfl (.tmp 56) (.tmp 58) 130 rfl eiVss (base := B4.heap.size) (xs := ps.map RowA.cells) rfl HOW.out (rows_fit _) (ys := [[.slice A6 fs.length c6]]) rfl (by simp) HNw.out (slice_fit A6 fs.length c6) (by rw [List.length_map, HPL.out]; show (q + 1) * 24 ≤ _; omega) (fut B4 (wi.alloc (.cells #[.slice A6 fs.length c6] 68))).size (N := q + 1) (by rw [List.length_map, HPL.out]; rfl) ?_; intro A9 c9 w9 hq1 hq2 hown9 hgr9 hbel9; have HP9 := hide (OwnP.app (r := ⟨A6, c6, own⟩) ((HOP.out.fut (w' := wi)).fut (w' := wi.alloc (.cells #[.slice A6 fs.length c6] 68))) (by show Own _ _ _ _ (.slice A6 own.length c6) _; rw [HOL.out]; exact (HO6.out.more (base' := B4.heap.size) hbo).fut) (by rw [cells_of A6 c6 fs.length own HOL.out]; exact hown9) hgr9); have HOIN := hide (((HOI.out.fut (w' := wi)).alloc (.cells #[.slice A6 fs.length c6] 68)).grown_other hgr9 (own_ne ((HOI.out.fut (w' := wi)).alloc (.cells #[.slice A6 fs.length c6] 68)) HOW.out (by decide))); have F9 : Step B4 w9 := ⟨(fut B4 (wi.alloc (.cells #[.slice A6 fs.length c6] 68))).trans hbel9⟩; clear hown9 hgr9 hbel9))
              have HNew := hide (SlAt.one w9 1 [.int .i64 (q : Int)] 3)
              have HOw := hide (HOIN.out.alloc (.cells #[.int .i64 (q : Int)] 3))
              go_wp2_with (at_builtin; go_loud (refine wpList_append_sl rfl (.tmp 60) (.tmp 62) 26 rfl eiInt (base := B4.heap.size) (xs := intCells (splitTo ((vss.take k).map (partT s fs))).2) rfl HOw.out (int_fit _) (ys := [[.int .i64 (q : Int)]]) rfl (by simp) HNew.out (int_fit [(q : Int)]) (by rw [HLI.out]; show (k + 1) * 8 ≤ _; omega) (fut B4 (w9.alloc (.cells #[.int .i64 (q : Int)] 3))).size (N := k + 1) (by rw [HLI.out]; rfl) ?_; intro A8 c8 w8 hq1 hq2 hown8 hgr8 hbel8; have H8 := hide hown8; have HB8 := hide hbel8; have HG8 := hide hgr8; clear hown8 hgr8 hbel8))
              go_roundw
              case rel =>
                refine ⟨k + 1, q + 1, A9, c9, (ps ++ [⟨A6, c6, own⟩]), A8, c8, by omega, by go_num, rfl, rfl, HOK2, (by show _ = _; rw [HST.out, HS1.out, List.map_append, HPM.out]; rfl), (by show _ = _; rw [List.length_append, HPL.out]; rfl), by omega, (by intro o ho; rcases List.mem_append.1 ho with h | h; exact HSM.out o h; simp at h; subst h; exact HNT.out), ?_, ?_, ⟨(fut B4 (w9.alloc (.cells #[.int .i64 (q : Int)] 3))).trans HB8.out⟩⟩
                · have hp := (HP9.out.fut (w' := w9.alloc (.cells #[.int .i64 (q : Int)] 3)))
                  exact ⟨hp.out.grown_other HG8.out (own_ne hp.out HOw.out (by decide)), fun r hr => (hp.rows r hr).grown_other HG8.out (own_ne (hp.rows r hr) HOw.out (by decide))⟩
                · rw [HST.out, HS1.out]
                  have := H8.out
                  simpa [intCells] using this
              case measure => simp [intOf]; omega
      · obtain rfl : k = rs.length := by omega
        have e1 : vss.take rs.length = vss := by rw [← HVSS.out, show rs.length = (rs.map RowA.vs).length by simp, List.take_length]
        rw [e1] at HOK HOI
        have hE : Hid (T = ((splitTo (vss.map (partT s fs))).2, 0)) := by show _ = _; rw [← HT.out, splitR, if_pos ⟨HSPB.out, HOK.out⟩]
        have hll : (splitTo (vss.map (partT s fs))).2.length = rs.length := by rw [(splitTo_len _).1, List.length_map, ← HVSS.out]; simp
        have HLL := hide hll
        clear hll e1
        go_wp2_with fail
        go_ret2
        exact ⟨A2, c2, by rw [hE.out]; show _ = Ending.returned (.tuple #[.slice A2 (splitTo (vss.map (partT s fs))).2.length c2, _]); rw [HLL.out]; rfl, by rw [hE.out]; show Own _ _ _ _ (.slice A2 (splitTo (vss.map (partT s fs))).2.length c2) _; rw [HLL.out]; exact HOI.out.more (by omega), Step.of⟩
end Go.Proofs.YtfojdjmeefglcaaDoor
namespace Go.Proofs.YtfojdjmeefglcaaDoor
open Go.RowKit

theorem partR_len (id : Int) (fs : List Fld) (s : Sch) (vs : List Val) : (partR id fs s vs).1.length ≤ fs.length := by
  unfold partR
  split
  · rw [partT_len]; exact Nat.le_refl _
  · exact Nat.zero_le _
theorem splitR_len (id : Int) (fs : List Fld) (s : Sch) (vss : List (List Val)) : (splitR id fs s vss).1.length ≤ vss.length := by
  unfold splitR
  split
  · rw [(splitTo_len _).1, List.length_map]; exact Nat.le_refl _
  · exact Nat.zero_le _
set_option maxRecDepth 100000 in
set_option maxHeartbeats 16000000 in
theorem parts_any (id : Int) (fs : List Fld) (Af : Option Addr) (cf : Nat) (s : Sch) (As : Option Addr) (cs : Nat) (rs : List RowA) (Ar : Option Addr) (cr : Nat) (w : World)
    (hf : FsIn w fs Af cf) (hfl : fs.length ≤ 5864062014634) (hs : SchIn w s As cs) (hr : RowsIn w rs Ar cr) (hfine : ∀ r ∈ rs, ∀ v ∈ r.vs, FineV v) :
    Calls Tryd.prog 12 #[.agg #[.int .i64 id, .slice Af fs.length cf], .agg #[.int .i64 s.id, .slice As s.cols.length cs, .int .i64 s.next], .slice Ar rs.length cr] w fun e w' => e = .returned (.bool true) ∧ Step w w' := by
  have hrm := hr.hcapm
  obtain ⟨W, hW⟩ : ∃ W, W = (w.alloc (.cells #[.int .i64 id, .slice Af fs.length cf] 88)).alloc (.cells #[.int .i64 s.id, .slice As s.cols.length cs, .int .i64 s.next] 24) := ⟨_, rfl⟩
  have SW : Step w W := by rw [hW]; exact Step.of
  have HPB : Hid (Blk W w.heap.size 88 [.int .i64 id, .slice Af fs.length cf]) := by rw [hW]; exact (Blk.new w [.int .i64 id, .slice Af fs.length cf] 88).alloc _
  have HSB : Hid (Blk W (w.heap.size + 1) 24 [.int .i64 s.id, .slice As s.cols.length cs, .int .i64 s.next]) := by rw [hW]; exact Blk.new_at (by simp) [.int .i64 s.id, .slice As s.cols.length cs, .int .i64 s.next] 24
  have HW := hide hW
  have hzW := SW.size
  have hlW := HSB.out.lt
  clear hW
  have LF := hide (fun w' [Fut w w'] => lendFields_any fs Af cf w' hf.at_ (by omega))
  have LSC := fun w' [Fut w w'] => lendSchema_any s As cs w' hs
  have LR := hide (fun w' [Fut w w'] => lendRows_any rs Ar cr w' hr)
  have RM := fun w' [Fut w w'] => rspec_any id fs Af cf s As cs w' hf hs
  have RSP := hide (fun w' [Fut w w'] => rSplit_any id fs Af cf s As cs rs Ar cr w' hf hs hr hfine)
  unfold Sch.val at LSC RM
  have LSC := hide LSC; have RM := hide RM
  go_enter Tryd.func12, Tryd.ntmps12
  go_upto_region 1 with (fail)
  rw [← HW.out]
  have p_ := HPB.out.fut (w' := W)
  obtain ⟨p0, p1⟩ := At.z2 p_.at0
  have lp := p_.lt
  clear p_
  have q_ := HSB.out.fut (w' := W)
  obtain ⟨q0, q1, q2⟩ := At.z3 q_.at0
  have lq := q_.lt
  clear q_
  go_cut [7] from 19 to 24 (fun g wx => ∃ (g7 : Nat) (AF : Option Addr) (cF : Nat), g = .pointer (some ⟨g7, 0, none⟩) ∧ Blk wx g7 88 [.int .i64 id, .slice AF fs.length cF] ∧ fs.length + 2 ≤ cF ∧ cF ≤ 9223372036854775807 ∧ SlAt wx wx.heap.size 3 AF ((fs ++ [Fld.mark, Fld.mark]).map Fld.cells) ∧ Step W wx)
  case first =>
    refine wp_region_held_drew (S := (fun w' => Step W w' ∧ (∀ b o, b < W.heap.size → w'.cell? ⟨b, o, none⟩ = W.cell? ⟨b, o, none⟩))) (by kernel_rfl) (by (try dsimp only); (first | exact ⟨hS1, hS2⟩ | exact ⟨Step.of, (bcell (fut _ _)).1⟩)) (fun hHeld => ?_)
    refine wpAnyH_take (i := 0) (oi := ⟨some 19, _, _, _, _, _⟩) (v := ?_) rfl (by kernel_rfl) (by kernel_rfl) (by kernel_rfl) (fun _ _ _ h => h) (Or.inl ⟨by rfl, ?_⟩) (by assumption) ?_
    rotate_left
    · ((intro w hSw); (try dsimp only at hSw); go_simp; (try with_reducible rfl))
    (try simp only [Act.put, List.setIfInBounds_toArray, List.set_cons_zero, List.set_cons_succ])
    refine wpAnyH_take (i := 2) (oi := ⟨some 21, _, _, _, _, _⟩) (v := ?_) rfl (by kernel_rfl) (by kernel_rfl) (by kernel_rfl) (fun _ _ _ h => h) (Or.inl ⟨by rfl, ?_⟩) (by assumption) ?_
    rotate_left
    · ((intro w hSw); (try dsimp only at hSw); go_simp; (try with_reducible rfl))
    (try simp only [Act.put, List.setIfInBounds_toArray, List.set_cons_zero, List.set_cons_succ])
    refine wpAnyH_take (i := 1) (oi := ⟨some 20, _, _, _, _, _⟩) (v := ?_) rfl (by kernel_rfl) (by kernel_rfl) (by kernel_rfl) (fun _ _ _ h => h) (Or.inl ⟨by rfl, ?_⟩) (by assumption) ?_
    rotate_left
    · ((intro w hSw); (try dsimp only at hSw); go_simp; (try with_reducible rfl))
    (try simp only [Act.put, List.setIfInBounds_toArray, List.set_cons_zero, List.set_cons_succ])
    refine wpAnyH_take (i := 3) (oi := ⟨some 22, _, _, _, _, _⟩) (v := ?_) rfl (by kernel_rfl) (by kernel_rfl) (by kernel_rfl) (fun _ _ _ h => h) (Or.inl ⟨by rfl, ?_⟩) (by assumption) ?_
    rotate_left
    · ((intro w hSw); (try dsimp only at hSw); go_simp; (try with_reducible rfl))
    (try simp only [Act.put, List.setIfInBounds_toArray, List.set_cons_zero, List.set_cons_succ])
    refine wpAnyH_ready (rs := [4, 6]) (by kernel_rfl) (by simp) ?_
    refine AllReadyH.cons (o := ⟨some 23, _, _, _, _, _⟩) rfl (fun K hK => ?_) (AllReadyH.cons (o := ⟨some 7, _, _, _, _, _⟩) rfl (fun K hK => ?_) AllReadyH.nil)
    · obtain ⟨hS1, hS2⟩ := hHeld
      go_simp
      (go_at_call 49; (with_reducible refine (LF.out _).mono ?_); rintro e w5 ⟨AF, cF, rfl, hcF, hcF2, hsF, haF, hs5⟩; have HSF := hide hsF; clear hsF; (first | (have b_ := HB7.out.fut (w' := w5); have f7 := b_.free; have l7 := b_.lt; obtain ⟨g0, g1⟩ := At.z2 b_.at0; clear b_) | skip))
      refine hK.out _ _ (by (try dsimp only); (first | exact ⟨hS1, hS2⟩ | exact ⟨Step.of, (bcell (fut _ _)).1⟩)) (fun hHeld => ?_)
      clear hK K
      (try simp only [Act.put, List.setIfInBounds_toArray, List.set_cons_zero, List.set_cons_succ])
      refine wpAnyH_take (i := 5) (oi := ⟨some 24, _, _, _, _, _⟩) (v := ?_) rfl (by kernel_rfl) (by kernel_rfl) (by kernel_rfl) (fun _ _ _ h => h) (Or.inl ⟨by rfl, ?_⟩) (by assumption) ?_
      rotate_left
      · ((intro w hSw); (try dsimp only at hSw); go_simp; (try with_reducible rfl))
      (try simp only [Act.put, List.setIfInBounds_toArray, List.set_cons_zero, List.set_cons_succ])
      refine wpAnyH_ready (rs := [6]) (by kernel_rfl) (by simp) ?_
      refine AllReadyH.cons (o := ⟨some 7, _, _, _, _, _⟩) rfl (fun K hK => ?_) AllReadyH.nil
      (go_simp; first | have HB7 := hide (Blk.new w5 [.int .i64 0, .slice none 0 0] 88) | have HB7 := hide (Blk.new W [.int .i64 0, .slice none 0 0] 88))
      refine hK.out _ _ (by (try dsimp only); (exact ⟨Step.of, (bcell (fut _ _)).1⟩)) (fun hHeld => ?_)
      clear hK K
      (try simp only [Act.put, List.setIfInBounds_toArray, List.set_cons_zero, List.set_cons_succ])
      refine wpAnyH_ready (rs := [7]) (by kernel_rfl) (by simp) ?_
      refine AllReadyH.cons (o := ⟨none, _, _, _, _, _⟩) rfl (fun K hK => ?_) AllReadyH.nil
      go_simp
      refine hK.out _ _ (by (try dsimp only); (exact ⟨Step.of, (bcell (fut _ _)).1⟩)) (fun hHeld => ?_)
      clear hK K
      (try simp only [Act.put, List.setIfInBounds_toArray, List.set_cons_zero, List.set_cons_succ])
      refine wpAnyH_done (by kernel_rfl) ?_ _
      go_wp2_with fail
      go_meet
      case rel => first | exact ⟨_, AF, cF, rfl, Blk.new w5 [.int .i64 id, .slice AF fs.length cF] 88, hcF, hcF2, HSF.out.fut, Step.of⟩ | exact ⟨_, AF, cF, rfl, ((HB7.out.fut (w' := w5)).set_ 0 (.int .i64 id)).set_ 1 (.slice AF fs.length cF), hcF, hcF2, (HSF.out.put haF (by first | omega | (simp; done) | (simp; omega)) _).put haF (by first | omega | (simp; done) | (simp; omega)) _, Step.of⟩
    · (go_simp; first | have HB7 := hide (Blk.new w5 [.int .i64 0, .slice none 0 0] 88) | have HB7 := hide (Blk.new W [.int .i64 0, .slice none 0 0] 88))
      refine hK.out _ _ (by (try dsimp only); (exact ⟨Step.of, (bcell (fut _ _)).1⟩)) (fun hHeld => ?_)
      clear hK K
      (try simp only [Act.put, List.setIfInBounds_toArray, List.set_cons_zero, List.set_cons_succ])
      refine wpAnyH_ready (rs := [4]) (by kernel_rfl) (by simp) ?_
      refine AllReadyH.cons (o := ⟨some 23, _, _, _, _, _⟩) rfl (fun K hK => ?_) AllReadyH.nil
      obtain ⟨hS1, hS2⟩ := hHeld
      go_simp
      (go_at_call 49; (with_reducible refine (LF.out _).mono ?_); rintro e w5 ⟨AF, cF, rfl, hcF, hcF2, hsF, haF, hs5⟩; have HSF := hide hsF; clear hsF; (first | (have b_ := HB7.out.fut (w' := w5); have f7 := b_.free; have l7 := b_.lt; obtain ⟨g0, g1⟩ := At.z2 b_.at0; clear b_) | skip))
      refine hK.out _ _ (by (try dsimp only); (first | exact ⟨hS1, hS2⟩ | exact ⟨Step.of, (bcell (fut _ _)).1⟩)) (fun hHeld => ?_)
      clear hK K
      (try simp only [Act.put, List.setIfInBounds_toArray, List.set_cons_zero, List.set_cons_succ])
      refine wpAnyH_take (i := 5) (oi := ⟨some 24, _, _, _, _, _⟩) (v := ?_) rfl (by kernel_rfl) (by kernel_rfl) (by kernel_rfl) (fun _ _ _ h => h) (Or.inl ⟨by rfl, ?_⟩) (by assumption) ?_
      rotate_left
      · ((intro w hSw); (try dsimp only at hSw); go_simp; (try with_reducible rfl))
      (try simp only [Act.put, List.setIfInBounds_toArray, List.set_cons_zero, List.set_cons_succ])
      refine wpAnyH_ready (rs := [7]) (by kernel_rfl) (by simp) ?_
      refine AllReadyH.cons (o := ⟨none, _, _, _, _, _⟩) rfl (fun K hK => ?_) AllReadyH.nil
      go_simp
      refine hK.out _ _ (by (try dsimp only); (exact ⟨Step.of, (bcell (fut _ _)).1⟩)) (fun hHeld => ?_)
      clear hK K
      (try simp only [Act.put, List.setIfInBounds_toArray, List.set_cons_zero, List.set_cons_succ])
      refine wpAnyH_done (by kernel_rfl) ?_ _
      go_wp2_with fail
      go_meet
      case rel => first | exact ⟨_, AF, cF, rfl, Blk.new w5 [.int .i64 id, .slice AF fs.length cF] 88, hcF, hcF2, HSF.out.fut, Step.of⟩ | exact ⟨_, AF, cF, rfl, ((HB7.out.fut (w' := w5)).set_ 0 (.int .i64 id)).set_ 1 (.slice AF fs.length cF), hcF, hcF2, (HSF.out.put haF (by first | omega | (simp; done) | (simp; omega)) _).put haF (by first | omega | (simp; done) | (simp; omega)) _, Step.of⟩
  case rest =>
    obtain ⟨g7, AF, cF, rfl, hg7, hcF, hcF2, hsF, hs7⟩ := hcut
    obtain ⟨X, rfl⟩ : ∃ x : World, x = wc := ⟨_, rfl⟩
    clear p0 p1 lp q0 q1 q2 lq
    have HX7 := hide hg7; have HSF := hide hsF
    have hzX := hs7.size
    have hlX := hg7.lt
    have HFI : Hid (FsIn X fs AF cF) := ⟨by omega, hcF2, hf.len, by have h_ := hsF; rw [List.map_append] at h_; exact h_.pre⟩
    clear hg7 hsF
    have q_ := HSB.out.fut (w' := X)
    obtain ⟨q0, q1, q2⟩ := At.z3 q_.at0
    have lq := q_.lt
    clear q_
    go_upto_region 3 with (first
      | (go_at_call 14; (with_reducible refine (LSC.out _).mono ?_); rintro e w8 ⟨AY, cY, rfl, hLS, hs8⟩; have HLS := hide hLS; clear hLS)
      | (go_at_call 33; (with_reducible refine (LR.out _).mono ?_); rintro e w9 ⟨AZ, cZ, os, rfl, hos, hol, hs9⟩; have HOS := hide hos; have HOW := hide hol; clear hos hol))
    clear q0 q1 q2 lq
    obtain ⟨Y, hY⟩ : ∃ Y, Y = w9.alloc (.cells #[.int .i64 s.id, .slice AY s.cols.length cY, .int .i64 s.next] 24) := ⟨_, rfl⟩
    have SYs : Step w9 Y := by rw [hY]; exact Step.of
    have HY8 : Hid (Blk Y w9.heap.size 24 [.int .i64 s.id, .slice AY s.cols.length cY, .int .i64 s.next]) := by rw [hY]; exact Blk.new w9 [.int .i64 s.id, .slice AY s.cols.length cY, .int .i64 s.next] 24
    rw [← hY]
    clear hY
    have hzY := (fut X Y).size
    have hz9 := (fut X w9).size
    have hosl : os.length = rs.length := by have := congrArg List.length HOS.out; simpa using this
    have HOL := hide hosl
    have hfo : ∀ o ∈ os, ∀ v ∈ o.vs, FineV v := by
      intro o ho
      have h_ : o.vs ∈ rs.map RowA.vs := by rw [← HOS.out]; exact List.mem_map.2 ⟨o, ho, rfl⟩
      obtain ⟨r, hr_, e_⟩ := List.mem_map.1 h_
      rw [← e_]
      exact hfine r hr_
    have hzr : RowsIn w9 os AZ cZ := by
      have h_ := HOW.out
      rw [← hosl] at h_
      refine h_.rin (by omega) (fun vs hv => ?_)
      rw [HOS.out] at hv
      obtain ⟨r, hr_, rfl⟩ := List.mem_map.1 hv
      exact ⟨(hr.rows r hr_).hcapm, (hr.rows r hr_).strs⟩
    have HZR := hide hzr
    have HOWL : Hid (OwnL w9 w8.heap.size AZ os.length cZ os) := by rw [hosl]; exact HOW.out
    have PM := fun w' [Fut X w'] [Fut w8 w'] => pspec_any id fs AF cF s AY cY w' HFI.out HLS.out.sin
    have PS := fun w' [Fut X w'] [Fut w8 w'] [Fut w9 w'] => pSplit_any id fs AF cF s AY cY os AZ cZ w' HFI.out HLS.out.sin HZR.out hfo
    unfold Sch.val at PM
    rw [hosl, HOS.out] at PS
    have PM := hide PM; have PS := hide PS
    obtain ⟨TS, hTS⟩ : ∃ TS, specB id fs s = TS := ⟨_, rfl⟩
    rw [hTS] at PM RM
    clear hTS hosl hfo hzr
    obtain ⟨TP, hTP⟩ : ∃ TP, splitR id fs s (rs.map RowA.vs) = TP := ⟨_, rfl⟩
    have hLT : TP.1.length ≤ rs.length := by rw [← hTP]; exact Nat.le_trans (splitR_len id fs s _) (by simp)
    rw [hTP] at PS RSP
    clear hTP
    obtain ⟨LT, eT⟩ := TP
    simp only at PS RSP hLT
    have KF := hide (fun w' [Fut w w'] [Fut X w'] => keptFields_any fs AF Af cF cf w' HSF.out hf.at_ hcF hcF2 (by omega))
    have KS := fun w' [Fut w w'] [Fut w8 w'] => keptSchema_any s AY As cY cs w' HLS.out hs
    unfold Sch.val at KS
    have KS := hide KS
    have KR := fun w' [Fut w w'] [Fut w9 w'] => keptRows_any w8.heap.size os rs AZ Ar cZ cr w' HOWL.out hr HOS.out
    rw [HOL.out] at KR
    have KR := hide KR
    have p_ := HPB.out.fut (w' := Y)
    obtain ⟨p0, p1⟩ := At.z2 p_.at0
    have lp := p_.lt
    clear p_
    have q_ := HSB.out.fut (w' := Y)
    obtain ⟨q0, q1, q2⟩ := At.z3 q_.at0
    have lq := q_.lt
    clear q_
    have x_ := HX7.out.fut (w' := Y)
    obtain ⟨x0, x1⟩ := At.z2 x_.at0
    have lx := x_.lt
    clear x_
    have y_ := HY8.out.fut (w' := Y)
    obtain ⟨y0, y1, y2⟩ := At.z3 y_.at0
    have ly := y_.lt
    clear y_
    refine wp_region_held_drew (S := (fun w' => Step Y w' ∧ (∀ b o, b < Y.heap.size → w'.cell? ⟨b, o, none⟩ = Y.cell? ⟨b, o, none⟩))) (by kernel_rfl) (by (try dsimp only); (first | exact ⟨hS1, hS2⟩ | exact ⟨Step.of, (bcell (fut _ _)).1⟩)) (fun hHeld => ?_)
    refine wpAnyH_take (i := 0) (oi := ⟨some 29, _, _, _, _, _⟩) (v := ?_) rfl (by kernel_rfl) (by kernel_rfl) (by kernel_rfl) (fun _ _ _ h => h) (Or.inl ⟨by rfl, ?_⟩) (by assumption) ?_
    rotate_left
    · ((intro w hSw); (try dsimp only at hSw); go_simp; (try with_reducible rfl))
    (try simp only [Act.put, List.setIfInBounds_toArray, List.set_cons_zero, List.set_cons_succ])
    refine wpAnyH_take (i := 1) (oi := ⟨some 30, _, _, _, _, _⟩) (v := ?_) rfl (by kernel_rfl) (by kernel_rfl) (by kernel_rfl) (fun _ _ _ h => h) (Or.inl ⟨by rfl, ?_⟩) (by assumption) ?_
    rotate_left
    · ((intro w hSw); (try dsimp only at hSw); go_simp; (try with_reducible rfl))
    (try simp only [Act.put, List.setIfInBounds_toArray, List.set_cons_zero, List.set_cons_succ])
    refine wpAnyH_take (i := 3) (oi := ⟨some 32, _, _, _, _, _⟩) (v := ?_) rfl (by kernel_rfl) (by kernel_rfl) (by kernel_rfl) (fun _ _ _ h => h) (Or.inl ⟨by rfl, ?_⟩) (by assumption) ?_
    rotate_left
    · ((intro w hSw); (try dsimp only at hSw); go_simp; (try with_reducible rfl))
    (try simp only [Act.put, List.setIfInBounds_toArray, List.set_cons_zero, List.set_cons_succ])
    refine wpAnyH_take (i := 4) (oi := ⟨some 33, _, _, _, _, _⟩) (v := ?_) rfl (by kernel_rfl) (by kernel_rfl) (by kernel_rfl) (fun _ _ _ h => h) (Or.inl ⟨by rfl, ?_⟩) (by assumption) ?_
    rotate_left
    · ((intro w hSw); (try dsimp only at hSw); go_simp; (try with_reducible rfl))
    (try simp only [Act.put, List.setIfInBounds_toArray, List.set_cons_zero, List.set_cons_succ])
    refine wpAnyH_ready (rs := [2]) (by kernel_rfl) (by simp) ?_
    refine AllReadyH.cons (o := ⟨some 31, _, _, _, _, _⟩) rfl (fun K hK => ?_) AllReadyH.nil
    obtain ⟨hS1, hS2⟩ := hHeld
    go_simp
    (go_at_call 50; (with_reducible refine (PM.out _).mono ?_); rintro e w10 ⟨rfl, hs10⟩)
    refine hK.out _ _ (by (try dsimp only); (first | exact ⟨hS1, hS2⟩ | exact ⟨Step.of, (bcell (fut _ _)).1⟩)) (fun hHeld => ?_)
    clear hK K
    (try simp only [Act.put, List.setIfInBounds_toArray, List.set_cons_zero, List.set_cons_succ])
    refine wpAnyH_ready (rs := [5]) (by kernel_rfl) (by simp) ?_
    refine AllReadyH.cons (o := ⟨some 34, _, _, _, _, _⟩) rfl (fun K hK => ?_) AllReadyH.nil
    obtain ⟨hS1, hS2⟩ := hHeld
    go_simp
    (go_at_call 51; (with_reducible refine (RM.out _).mono ?_); rintro e w11 ⟨rfl, hs11⟩)
    refine hK.out _ _ (by (try dsimp only); (first | exact ⟨hS1, hS2⟩ | exact ⟨Step.of, (bcell (fut _ _)).1⟩)) (fun hHeld => ?_)
    clear hK K
    (try simp only [Act.put, List.setIfInBounds_toArray, List.set_cons_zero, List.set_cons_succ])
    refine wpAnyH_take (i := 6) (oi := ⟨some 35, _, _, _, _, _⟩) (v := ?_) rfl (by kernel_rfl) (by kernel_rfl) (by kernel_rfl) (fun _ _ _ h => h) (Or.inl ⟨by rfl, ?_⟩) (by assumption) ?_
    rotate_left
    · ((intro w hSw); (try dsimp only at hSw); go_simp; (try with_reducible rfl))
    (try simp only [Act.put, List.setIfInBounds_toArray, List.set_cons_zero, List.set_cons_succ])
    refine wpAnyH_done (by kernel_rfl) ?_ _
    clear p0 p1 lp q0 q1 q2 lq x0 x1 lx y0 y1 y2 ly
    have hz911 := (fut w9 w11).size
    have hzw11 := (fut w w11).size
    go_wp2_with fail
    go_loopw [10, 11, 12, 13, 14] (fun i _ _ _ _ wr => ∃ k : Nat, k ≤ rs.length ∧ i = .int .i64 k ∧ Step w11 wr) (fun i _ _ _ _ _ => rs.length - (intOf i).toNat)
    case atStart => exact ⟨0, Nat.zero_le _, rfl, Step.of⟩
    case round =>
      obtain ⟨k, hk, rfl, hst⟩ := hrel
      obtain ⟨wo, rfl⟩ : ∃ x : World, x = wr := ⟨_, rfl⟩
      have hzo := hst.size
      by_cases hkk : k < rs.length ∧ k < 20
      · obtain ⟨hlt, h20⟩ := hkk
        obtain ⟨b1, o1, hA1, hb1, ro, hrok, hroi, z0⟩ := HZR.out.row (w' := wo) inferInstance (k := k) (by rw [HOL.out]; exact hlt)
        obtain ⟨b2, o2, hA2, hb2, r, hrk, hri, r0⟩ := hr.row (w' := wo) inferInstance hlt
        have hvs : ro.vs = r.vs := by
          have h3 : (os.map RowA.vs)[k]? = some ro.vs := by simp [hrok]
          have h4 : (rs.map RowA.vs)[k]? = some r.vs := by simp [hrk]
          rw [HOS.out, h4] at h3
          injection h3 with h3
          exact h3.symm
        have hra := hroi.at_
        rw [hvs] at z0 hra
        have hrl := hri.hcapm
        have HFR := hide (hfine r (List.mem_of_getElem? hrk))
        have PT := hide (fun w' [Fut X w'] [Fut w8 w'] [Fut w9 w'] => pPart_any id fs AF cF s AY cY r.vs ro.A ro.cap w' HFI.out HLS.out.sin hra HFR.out (by omega))
        have RT := hide (fun w' [Fut w w'] => rPart_any id fs Af cf s As cs r.vs r.A r.cap w' hf hs hri.at_ HFR.out (by omega))
        obtain ⟨T, hT⟩ : ∃ T, partR id fs s r.vs = T := ⟨_, rfl⟩
        have hTl : T.1.length ≤ fs.length := by rw [← hT]; exact partR_len id fs s r.vs
        rw [hT] at PT RT
        clear hT
        obtain ⟨l, er⟩ := T
        simp only at PT RT hTl
        have l1 : b1 < wo.heap.size := by omega
        have l2 : b2 < wo.heap.size := by omega
        have hkl : (k : Int) < (rs.length : Int) := by omega
        have hk20 : (k : Int) < 20 := by omega
        have hk0 : (0 : Int) ≤ (k : Int) := by omega
        rw [hA1, hA2]
        clear hrok hrk hA1 hA2 hvs hra
        have p_ := HPB.out.fut (w' := wo)
        obtain ⟨p0, p1⟩ := At.z2 p_.at0
        have lp := p_.lt
        clear p_
        have q_ := HSB.out.fut (w' := wo)
        obtain ⟨q0, q1, q2⟩ := At.z3 q_.at0
        have lq := q_.lt
        clear q_
        have x_ := HX7.out.fut (w' := wo)
        obtain ⟨x0, x1⟩ := At.z2 x_.at0
        have lx := x_.lt
        clear x_
        have y_ := HY8.out.fut (w' := wo)
        obtain ⟨y0, y1, y2⟩ := At.z3 y_.at0
        have ly := y_.lt
        clear y_
        go_upto_region 8 with (fail)
        refine wp_region_held_drew (S := (fun w' => Step wo w' ∧ (∀ b o, b < wo.heap.size → w'.cell? ⟨b, o, none⟩ = wo.cell? ⟨b, o, none⟩))) (by kernel_rfl) (by (try dsimp only); (first | exact ⟨hS1, hS2⟩ | exact ⟨Step.of, (bcell (fut _ _)).1⟩)) (fun hHeld => ?_)
        refine wpAnyH_take (i := 0) (oi := ⟨some 47, _, _, _, _, _⟩) (v := ?_) rfl (by kernel_rfl) (by kernel_rfl) (by kernel_rfl) (fun _ _ _ h => h) (Or.inl ⟨by rfl, ?_⟩) (by assumption) ?_
        rotate_left
        · ((intro w hSw); (try dsimp only at hSw); go_simp; (try with_reducible rfl))
        (try simp only [Act.put, List.setIfInBounds_toArray, List.set_cons_zero, List.set_cons_succ])
        refine wpAnyH_take (i := 1) (oi := ⟨some 48, _, _, _, _, _⟩) (v := ?_) rfl (by kernel_rfl) (by kernel_rfl) (by kernel_rfl) (fun _ _ _ h => h) (Or.inl ⟨by rfl, ?_⟩) (by assumption) ?_
        rotate_left
        · ((intro w hSw); (try dsimp only at hSw); go_simp; (try with_reducible rfl))
        (try simp only [Act.put, List.setIfInBounds_toArray, List.set_cons_zero, List.set_cons_succ])
        refine wpAnyH_take (i := 2) (oi := ⟨some 49, _, _, _, _, _⟩) (v := ?_) rfl (by kernel_rfl) (by kernel_rfl) (by kernel_rfl) (fun _ _ _ h => h) (Or.inl ⟨by rfl, ?_⟩) (by assumption) ?_
        rotate_left
        · ((intro w hSw); (try dsimp only at hSw); go_simp; (try with_reducible rfl))
        (try simp only [Act.put, List.setIfInBounds_toArray, List.set_cons_zero, List.set_cons_succ])
        refine wpAnyH_take (i := 3) (oi := ⟨some 50, _, _, _, _, _⟩) (v := ?_) rfl (by kernel_rfl) (by kernel_rfl) (by kernel_rfl) (fun _ _ _ h => h) (Or.inl ⟨by rfl, ?_⟩) (by assumption) ?_
        rotate_left
        · ((intro w hSw); (try dsimp only at hSw); go_simp; (try with_reducible rfl))
        (try simp only [Act.put, List.setIfInBounds_toArray, List.set_cons_zero, List.set_cons_succ])
        refine wpAnyH_take (i := 4) (oi := ⟨some 51, _, _, _, _, _⟩) (v := ?_) rfl (by kernel_rfl) (by kernel_rfl) (by kernel_rfl) (fun _ _ _ h => h) (Or.inl ⟨by rfl, ?_⟩) (by assumption) ?_
        rotate_left
        · ((intro w hSw); (try dsimp only at hSw); go_simp; (try with_reducible rfl))
        (try simp only [Act.put, List.setIfInBounds_toArray, List.set_cons_zero, List.set_cons_succ])
        refine wpAnyH_take (i := 5) (oi := ⟨some 52, _, _, _, _, _⟩) (v := ?_) rfl (by kernel_rfl) (by kernel_rfl) (by kernel_rfl) (fun _ _ _ h => h) (Or.inl ⟨by rfl, ?_⟩) (by assumption) ?_
        rotate_left
        · ((intro w hSw); (try dsimp only at hSw); go_simp; (try with_reducible rfl))
        (try simp only [Act.put, List.setIfInBounds_toArray, List.set_cons_zero, List.set_cons_succ])
        refine wpAnyH_ready (rs := [6]) (by kernel_rfl) (by simp) ?_
        refine AllReadyH.cons (o := ⟨some 53, _, _, _, _, _⟩) rfl (fun K hK => ?_) AllReadyH.nil
        obtain ⟨hS1, hS2⟩ := hHeld
        go_simp
        (go_at_call 52; (with_reducible refine (PT.out _).mono ?_); rintro e w12 ⟨A12, c12, rfl, ho12, hs12⟩; have HO12 := hide ho12; clear ho12)
        refine hK.out _ _ (by (try dsimp only); (first | exact ⟨hS1, hS2⟩ | exact ⟨Step.of, (bcell (fut _ _)).1⟩)) (fun hHeld => ?_)
        clear hK K
        (try simp only [Act.put, List.setIfInBounds_toArray, List.set_cons_zero, List.set_cons_succ])
        refine wpAnyH_take (i := 7) (oi := ⟨some 46, _, _, _, _, _⟩) (v := ?_) rfl (by kernel_rfl) (by kernel_rfl) (by kernel_rfl) (fun _ _ _ h => h) (Or.inl ⟨by rfl, ?_⟩) (by assumption) ?_
        rotate_left
        · ((intro w hSw); (try dsimp only at hSw); go_simp; (try with_reducible rfl))
        (try simp only [Act.put, List.setIfInBounds_toArray, List.set_cons_zero, List.set_cons_succ])
        refine wpAnyH_take (i := 8) (oi := ⟨some 54, _, _, _, _, _⟩) (v := ?_) rfl (by kernel_rfl) (by kernel_rfl) (by kernel_rfl) (fun _ _ _ h => h) (Or.inl ⟨by rfl, ?_⟩) (by assumption) ?_
        rotate_left
        · ((intro w hSw); (try dsimp only at hSw); go_simp; (try with_reducible rfl))
        (try simp only [Act.put, List.setIfInBounds_toArray, List.set_cons_zero, List.set_cons_succ])
        refine wpAnyH_take (i := 9) (oi := ⟨some 55, _, _, _, _, _⟩) (v := ?_) rfl (by kernel_rfl) (by kernel_rfl) (by kernel_rfl) (fun _ _ _ h => h) (Or.inl ⟨by rfl, ?_⟩) (by assumption) ?_
        rotate_left
        · ((intro w hSw); (try dsimp only at hSw); go_simp; (try with_reducible rfl))
        (try simp only [Act.put, List.setIfInBounds_toArray, List.set_cons_zero, List.set_cons_succ])
        refine wpAnyH_take (i := 10) (oi := ⟨some 11, _, _, _, _, _⟩) (v := ?_) rfl (by kernel_rfl) (by kernel_rfl) (by kernel_rfl) (fun _ _ _ h => h) (Or.inl ⟨by rfl, ?_⟩) (by assumption) ?_
        rotate_left
        · ((intro w hSw); (try dsimp only at hSw); go_simp; (try with_reducible rfl))
        (try simp only [Act.put, List.setIfInBounds_toArray, List.set_cons_zero, List.set_cons_succ])
        refine wpAnyH_take (i := 11) (oi := ⟨some 12, _, _, _, _, _⟩) (v := ?_) rfl (by kernel_rfl) (by kernel_rfl) (by kernel_rfl) (fun _ _ _ h => h) (Or.inl ⟨by rfl, ?_⟩) (by assumption) ?_
        rotate_left
        · ((intro w hSw); (try dsimp only at hSw); go_simp; (try with_reducible rfl))
        (try simp only [Act.put, List.setIfInBounds_toArray, List.set_cons_zero, List.set_cons_succ])
        refine wpAnyH_done (by kernel_rfl) ?_ _
        clear hHeld z0
        clear p0 p1 lp q0 q1 q2 lq x0 x1 lx y0 y1 y2 ly
        have hz12 := (fut wo w12).size
        have r1 : w12.cell? ⟨b2, o2 + k, none⟩ = some (.slice r.A r.vs.length r.cap) := by rw [(bcell (fut wo w12)).1 _ _ l2]; exact r0
        have l3 : b2 < w12.heap.size := by omega
        clear r0 l1 l2
        have p_ := HPB.out.fut (w' := w12)
        obtain ⟨p0, p1⟩ := At.z2 p_.at0
        have lp := p_.lt
        clear p_
        have q_ := HSB.out.fut (w' := w12)
        obtain ⟨q0, q1, q2⟩ := At.z3 q_.at0
        have lq := q_.lt
        clear q_
        go_upto_region 9 with (fail)
        refine wp_region_held_drew (S := (fun w' => Step w12 w' ∧ (∀ b o, b < w12.heap.size → w'.cell? ⟨b, o, none⟩ = w12.cell? ⟨b, o, none⟩))) (by kernel_rfl) (by (try dsimp only); (first | exact ⟨hS1, hS2⟩ | exact ⟨Step.of, (bcell (fut _ _)).1⟩)) (fun hHeld => ?_)
        refine wpAnyH_take (i := 0) (oi := ⟨some 57, _, _, _, _, _⟩) (v := ?_) rfl (by kernel_rfl) (by kernel_rfl) (by kernel_rfl) (fun _ _ _ h => h) (Or.inl ⟨by rfl, ?_⟩) (by assumption) ?_
        rotate_left
        · ((intro w hSw); (try dsimp only at hSw); go_simp; (try with_reducible rfl))
        (try simp only [Act.put, List.setIfInBounds_toArray, List.set_cons_zero, List.set_cons_succ])
        refine wpAnyH_take (i := 1) (oi := ⟨some 58, _, _, _, _, _⟩) (v := ?_) rfl (by kernel_rfl) (by kernel_rfl) (by kernel_rfl) (fun _ _ _ h => h) (Or.inl ⟨by rfl, ?_⟩) (by assumption) ?_
        rotate_left
        · ((intro w hSw); (try dsimp only at hSw); go_simp; (try with_reducible rfl))
        (try simp only [Act.put, List.setIfInBounds_toArray, List.set_cons_zero, List.set_cons_succ])
        refine wpAnyH_take (i := 2) (oi := ⟨some 59, _, _, _, _, _⟩) (v := ?_) rfl (by kernel_rfl) (by kernel_rfl) (by kernel_rfl) (fun _ _ _ h => h) (Or.inl ⟨by rfl, ?_⟩) (by assumption) ?_
        rotate_left
        · ((intro w hSw); (try dsimp only at hSw); go_simp; (try with_reducible rfl))
        (try simp only [Act.put, List.setIfInBounds_toArray, List.set_cons_zero, List.set_cons_succ])
        refine wpAnyH_take (i := 3) (oi := ⟨some 60, _, _, _, _, _⟩) (v := ?_) rfl (by kernel_rfl) (by kernel_rfl) (by kernel_rfl) (fun _ _ _ h => h) (Or.inl ⟨by rfl, ?_⟩) (by assumption) ?_
        rotate_left
        · ((intro w hSw); (try dsimp only at hSw); go_simp; (try with_reducible rfl))
        (try simp only [Act.put, List.setIfInBounds_toArray, List.set_cons_zero, List.set_cons_succ])
        refine wpAnyH_take (i := 4) (oi := ⟨some 61, _, _, _, _, _⟩) (v := ?_) rfl (by kernel_rfl) (by kernel_rfl) (by kernel_rfl) (fun _ _ _ h => h) (Or.inl ⟨by rfl, ?_⟩) (by assumption) ?_
        rotate_left
        · ((intro w hSw); (try dsimp only at hSw); go_simp; (try with_reducible rfl))
        (try simp only [Act.put, List.setIfInBounds_toArray, List.set_cons_zero, List.set_cons_succ])
        refine wpAnyH_take (i := 5) (oi := ⟨some 62, _, _, _, _, _⟩) (v := ?_) rfl (by kernel_rfl) (by kernel_rfl) (by kernel_rfl) (fun _ _ _ h => h) (Or.inl ⟨by rfl, ?_⟩) (by assumption) ?_
        rotate_left
        · ((intro w hSw); (try dsimp only at hSw); go_simp; (try with_reducible rfl))
        (try simp only [Act.put, List.setIfInBounds_toArray, List.set_cons_zero, List.set_cons_succ])
        refine wpAnyH_ready (rs := [6]) (by kernel_rfl) (by simp) ?_
        refine AllReadyH.cons (o := ⟨some 63, _, _, _, _, _⟩) rfl (fun K hK => ?_) AllReadyH.nil
        obtain ⟨hS1, hS2⟩ := hHeld
        go_simp
        (go_at_call 53; (with_reducible refine (RT.out _).mono ?_); rintro e w13 ⟨A13, c13, rfl, ho13, hs13⟩; have HO13 := hide ho13; clear ho13)
        refine hK.out _ _ (by (try dsimp only); (first | exact ⟨hS1, hS2⟩ | exact ⟨Step.of, (bcell (fut _ _)).1⟩)) (fun hHeld => ?_)
        clear hK K
        (try simp only [Act.put, List.setIfInBounds_toArray, List.set_cons_zero, List.set_cons_succ])
        refine wpAnyH_take (i := 7) (oi := ⟨some 56, _, _, _, _, _⟩) (v := ?_) rfl (by kernel_rfl) (by kernel_rfl) (by kernel_rfl) (fun _ _ _ h => h) (Or.inl ⟨by rfl, ?_⟩) (by assumption) ?_
        rotate_left
        · ((intro w hSw); (try dsimp only at hSw); go_simp; (try with_reducible rfl))
        (try simp only [Act.put, List.setIfInBounds_toArray, List.set_cons_zero, List.set_cons_succ])
        refine wpAnyH_take (i := 8) (oi := ⟨some 64, _, _, _, _, _⟩) (v := ?_) rfl (by kernel_rfl) (by kernel_rfl) (by kernel_rfl) (fun _ _ _ h => h) (Or.inl ⟨by rfl, ?_⟩) (by assumption) ?_
        rotate_left
        · ((intro w hSw); (try dsimp only at hSw); go_simp; (try with_reducible rfl))
        (try simp only [Act.put, List.setIfInBounds_toArray, List.set_cons_zero, List.set_cons_succ])
        refine wpAnyH_take (i := 9) (oi := ⟨some 65, _, _, _, _, _⟩) (v := ?_) rfl (by kernel_rfl) (by kernel_rfl) (by kernel_rfl) (fun _ _ _ h => h) (Or.inl ⟨by rfl, ?_⟩) (by assumption) ?_
        rotate_left
        · ((intro w hSw); (try dsimp only at hSw); go_simp; (try with_reducible rfl))
        (try simp only [Act.put, List.setIfInBounds_toArray, List.set_cons_zero, List.set_cons_succ])
        refine wpAnyH_take (i := 10) (oi := ⟨some 13, _, _, _, _, _⟩) (v := ?_) rfl (by kernel_rfl) (by kernel_rfl) (by kernel_rfl) (fun _ _ _ h => h) (Or.inl ⟨by rfl, ?_⟩) (by assumption) ?_
        rotate_left
        · ((intro w hSw); (try dsimp only at hSw); go_simp; (try with_reducible rfl))
        (try simp only [Act.put, List.setIfInBounds_toArray, List.set_cons_zero, List.set_cons_succ])
        refine wpAnyH_take (i := 11) (oi := ⟨some 14, _, _, _, _, _⟩) (v := ?_) rfl (by kernel_rfl) (by kernel_rfl) (by kernel_rfl) (fun _ _ _ h => h) (Or.inl ⟨by rfl, ?_⟩) (by assumption) ?_
        rotate_left
        · ((intro w hSw); (try dsimp only at hSw); go_simp; (try with_reducible rfl))
        (try simp only [Act.put, List.setIfInBounds_toArray, List.set_cons_zero, List.set_cons_succ])
        refine wpAnyH_done (by kernel_rfl) ?_ _
        clear hHeld r1 l3
        clear p0 p1 lp q0 q1 q2 lq
        have hz13 := (fut wo w13).size
        have hb11 : w11.heap.size ≤ wo.drew.heap.size := hzo
        have SV := hide (fun w' [Fut w12 w'] [Fut w13 w'] => sameValues_any l A12 A13 c12 c13 w' (HO12.out.sl (vals_fit l).len) (HO13.out.sl (vals_fit l).len) (by omega))
        go_wp2_with (first
          | (go_at_call 43; (with_reducible refine (SV.out _).mono ?_); rintro e w14 ⟨rfl, hs14⟩)
          | (go_at_call 22; refine (num_any _ _).mono ?_; rintro e w' ⟨rfl, rfl⟩)
          | (go_at_call 54; go_loud ((refine (spoilValues_any l A12 c12 wo.drew.heap.size _ (HO12.out.fut (w' := w14)) (by omega)).mono ?_); rintro e w15 ⟨rfl, hg15⟩; have hs15 : Step w11 w15 := ⟨(fut w11 w14).trans ((below_of_grown (HO12.out.fut (w' := w14)) hg15 (by have := (fut wo w14).size; exact this)).mono hb11)⟩; clear hg15)))
        go_roundw
        case rel => exact ⟨k + 1, by omega, by go_num, hs15⟩
        case measure => simp [intOf]; omega
      · have hkk2 : ¬ (k : Int) < (rs.length : Int) ∨ (k : Int) < (rs.length : Int) ∧ ¬ (k : Int) < 20 := by omega
        clear hkk
        have p_ := HPB.out.fut (w' := wo)
        obtain ⟨p0, p1⟩ := At.z2 p_.at0
        have lp := p_.lt
        clear p_
        have q_ := HSB.out.fut (w' := wo)
        obtain ⟨q0, q1, q2⟩ := At.z3 q_.at0
        have lq := q_.lt
        clear q_
        have x_ := HX7.out.fut (w' := wo)
        obtain ⟨x0, x1⟩ := At.z2 x_.at0
        have lx := x_.lt
        clear x_
        have y_ := HY8.out.fut (w' := wo)
        obtain ⟨y0, y1, y2⟩ := At.z3 y_.at0
        have ly := y_.lt
        clear y_
        rcases hkk2 with hkl | ⟨hkl, hk20⟩
        all_goals
          go_wp2_with (first
            | (go_at_call 55; (with_reducible refine (PS.out _).mono ?_); rintro e w21 ⟨A21, c21, rfl, ho21, hs21⟩; have HO21 := hide ho21; clear ho21; (clear p0 p1 lp q0 q1 q2 lq x0 x1 lx y0 y1 y2 ly); (have p_ := HPB.out.fut (w' := w21)); (obtain ⟨p0, p1⟩ := At.z2 p_.at0); (have lp := p_.lt); (clear p_); (have q_ := HSB.out.fut (w' := w21)); (obtain ⟨q0, q1, q2⟩ := At.z3 q_.at0); (have lq := q_.lt); (clear q_); (have x_ := HX7.out.fut (w' := w21)); (obtain ⟨x0, x1⟩ := At.z2 x_.at0); (have lx := x_.lt); (clear x_); (have y_ := HY8.out.fut (w' := w21)); (obtain ⟨y0, y1, y2⟩ := At.z3 y_.at0); (have ly := y_.lt); (clear y_))
            | (go_at_call 56; (with_reducible refine (RSP.out _).mono ?_); rintro e w22 ⟨A22, c22, rfl, ho22, hs22⟩; have HO22 := hide ho22; clear ho22; (clear p0 p1 lp q0 q1 q2 lq x0 x1 lx y0 y1 y2 ly))
            | (go_at_call 57; (with_reducible refine (sameInts_any LT A21 A22 c21 c22 _ (HO21.out.sl (int_fit LT).len) (HO22.out.sl (int_fit LT).len) (by omega)).mono ?_); rintro e w23 ⟨rfl, hs23⟩; (have p_ := HPB.out.fut (w' := w23)); (obtain ⟨p0, p1⟩ := At.z2 p_.at0); (have lp := p_.lt); (clear p_); (have q_ := HSB.out.fut (w' := w23)); (obtain ⟨q0, q1, q2⟩ := At.z3 q_.at0); (have lq := q_.lt); (clear q_); (have x_ := HX7.out.fut (w' := w23)); (obtain ⟨x0, x1⟩ := At.z2 x_.at0); (have lx := x_.lt); (clear x_); (have y_ := HY8.out.fut (w' := w23)); (obtain ⟨y0, y1, y2⟩ := At.z3 y_.at0); (have ly := y_.lt); (clear y_))
            | (go_at_call 22; refine (num_any _ _).mono ?_; rintro e w' ⟨rfl, rfl⟩)
            | (go_at_call 58; (with_reducible refine (KF.out _).mono ?_); rintro e w24 ⟨rfl, hs24⟩; (clear p0 p1 lp q0 q1 q2 lq x0 x1 lx y0 y1 y2 ly); (have p_ := HPB.out.fut (w' := w24)); (obtain ⟨p0, p1⟩ := At.z2 p_.at0); (have lp := p_.lt); (clear p_); (have q_ := HSB.out.fut (w' := w24)); (obtain ⟨q0, q1, q2⟩ := At.z3 q_.at0); (have lq := q_.lt); (clear q_); (have x_ := HX7.out.fut (w' := w24)); (obtain ⟨x0, x1⟩ := At.z2 x_.at0); (have lx := x_.lt); (clear x_); (have y_ := HY8.out.fut (w' := w24)); (obtain ⟨y0, y1, y2⟩ := At.z3 y_.at0); (have ly := y_.lt); (clear y_))
            | (go_at_call 25; (with_reducible refine (KS.out _).mono ?_); rintro e w25 ⟨rfl, hs25⟩; (clear p0 p1 lp q0 q1 q2 lq x0 x1 lx y0 y1 y2 ly))
            | (go_at_call 40; (with_reducible refine (KR.out _).mono ?_); rintro e w26 ⟨rfl, hs26⟩)
            | (go_at_call 47; refine (awake13_any _).mono ?_; rintro e w27 ⟨rfl, hs27⟩))
          go_ret
          exact ⟨rfl, Step.of⟩
end Go.Proofs.YtfojdjmeefglcaaDoor
namespace Go.Proofs.YtfojdjmeefglcaaDoor.specParts
open Go.ChangeShapes Go.WideShapes Go.ChangeAt Go.RowKit

set_option maxRecDepth 100000 in
theorem contract (H : Type) (enc : TypeId × Value → H) (W : World) (base : Nat) (args : Array Value) (ds gs : List (DataW H)) (before : List MemPlace)
    (hval : ∀ (j : Nat) t v, Tryd.f12.params[j]? = some t → args[j]? = some v → Value.okWide Tryd.prog W .any base t v)
    (hW : DataW.Whole enc Tryd.prog Tryd.f12.params.toList Rows.specPartsSpec.vars false W args.toList ds gs before)
    (hlim : (DataW.weightsEach Tryd.prog (Tryd.f12.params.toList ++ (OpenSpec.ofChange Rows.specPartsSpec).bare.plain.varTypes Tryd.prog) (ds ++ gs)).all (· ≤ reachBytes) = true) :
    Calls Tryd.prog 12 args W fun e W' => ∃ v, e = .returned v ∧ Rows.specPartsSpec.post enc Tryd.prog Tryd.f12 false true false false W args v W' := by
  obtain ⟨p, q, hA0, hV, hpq, hfz, hnd⟩ := id hW
  have hA : DataW.TrodAll enc Tryd.prog W 0 (fun _ => true) true Tryd.f12.params.toList args.toList ds p := hA0
  clear hA0
  obtain ⟨rfl, rfl⟩ := trodVars_none hV
  have hl := lim_each hlim
  rw [List.append_nil] at hl
  have hl : ∀ n ∈ DataW.weightsEach Tryd.prog [88, 24, 54] ds, n ≤ reachBytes := hl
  rw [Tryd.params12] at hA hval
  obtain ⟨v0, vs0, d0, ds0, p0, q0, hargs, rfl, rfl, h0, r0⟩ := trodAll_cons hA
  obtain ⟨v1, vs1, d1, ds1, p1, q1, rfl, rfl, rfl, h1, r1⟩ := trodAll_cons r0
  obtain ⟨v2, vs2, d2, ds2, p2, q2, rfl, rfl, rfl, h2, r2⟩ := trodAll_cons r1
  obtain ⟨rfl, rfl, rfl⟩ := trodAll_nil r2
  obtain rfl : args = #[v0, v1, v2] := by cases args; simp_all
  obtain ⟨l0, m0⟩ := lim_cons hl
  obtain ⟨l1, m1⟩ := lim_cons m0
  obtain ⟨l2, m2⟩ := lim_cons m1
  obtain ⟨x0, rfl, g0⟩ := o_specL.agg Tryd.underlying88 (hval 0 88 v0 rfl rfl) h0 l0
  obtain ⟨x1, rfl, g1⟩ := o_sch.agg Tryd.underlying24 (hval 1 24 v1 rfl rfl) h1 l1
  obtain ⟨x2, rfl, g2⟩ := o_rowsF.slice Tryd.underlying54 (hval 2 54 v2 rfl rfl) h2 l2
  refine (parts_any x0.1 x0.2.2.2 x0.2.1 x0.2.2.1 x1.1 x1.2.1 x1.2.2 x2.2.2 x2.1 x2.2.1 W g0.1 g0.2 g1 g2.1 g2.2).mono fun e W' ⟨he, hb'⟩ => ?_
  subst he
  exact ⟨_, rfl, law_post (by kernel_rfl) (by kernel_rfl) rfl Tryd.underlying4 rfl rfl hW hb'.below⟩

theorem reads (os : Os) {H : Type} (enc : TypeId × Value → H) : ∃ places, DataW.whole enc Tryd.prog ((tabled os).forCall (fun _ _ => 0) ⟨#[], #[.agg #[.int .i64 0, .slice none 0 0], .agg #[.int .i64 0, .slice none 0 0, .int .i64 0], .slice none 0 0], []⟩).memory Tryd.f12.params.toList Rows.specPartsSpec.vars false (#[.agg #[.int .i64 0, .slice none 0 0], .agg #[.int .i64 0, .slice none 0 0, .int .i64 0], .slice none 0 0] : Array Value).toList 8 = some ([.agg [.lit (.int .i64 0), .nil], .agg [.lit (.int .i64 0), .nil, .lit (.int .i64 0)], .nil], [], places) :=
  ⟨[], by kernel_rfl⟩

set_option maxRecDepth 100000 in
theorem lifted (os : Os) (started : os.Started) (H : Type) (enc : TypeId × Value → H) (F : Stop.Interp) :
    ReturnsInHanded {} Tryd.checked os 12 .any ((OpenSpec.ofChange Rows.specPartsSpec).preRow enc Tryd.prog Tryd.f12 Rows.specPartsRow.domain false Rows.specPartsRow.laid) (((OpenSpec.ofChange Rows.specPartsSpec).at F).post enc Tryd.prog Tryd.f12 false true false false) := by
  obtain ⟨places, hx⟩ := reads os enc
  refine returnsInHanded_of_row (C := Tryd.checked) (s := OpenSpec.ofChange Rows.specPartsSpec) own started (by kernel_rfl) Tryd.func12
    (tabled_witness (enc := enc) #[.agg #[.int .i64 0, .slice none 0 0], .agg #[.int .i64 0, .slice none 0 0, .int .i64 0], .slice none 0 0] 8 hx (by kernel_rfl) (by kernel_rfl) (fun k hk => by cases hk) (by kernel_rfl)) ?_
  intro W base args ds gs before hval hW _ hcond hlim _ _ _
  exact contract H enc W base args ds gs before hval hW hlim

theorem said : Rows.SpecPartsSaid :=
  OpenClaim.holds_of_cond 12 Tryd.f12 rfl rfl rfl rfl rfl rfl rfl ⟨rfl, rfl, rfl, rfl, rfl⟩ rfl rfl rfl rfl rfl (by kernel_rfl) Tryd.func12 (by kernel_rfl)
    (of_decide_eq_true (by kernel_rfl)) (by unfold Func.isWrapper; first | (rw [if_pos (by decide +kernel)]; kernel_rfl) | (rw [if_neg (by decide +kernel)]; exact ⟨rfl, rfl⟩))
    (fun os started H enc _ F => by rw [OpenClaim.pre_eq_preRow]; exact lifted os started H enc F)

theorem plain (f : FuncId) (fn : Func) (hf : Tryd.pinned.checked.prog.funcNamed "boathouse/boathouselaw13.SpecParts" = some f) (hfn : Tryd.pinned.checked.prog.funcs[f]? = some fn) :
    false = Tryd.pinned.checked.prog.looks [] ∧ ∀ (j : Nat) t, fn.params[j]? = some t → Tryd.pinned.checked.prog.wantsStandIn t = false := by
  obtain rfl : f = 12 := Option.some.inj ((show Tryd.prog.funcNamed "boathouse/boathouselaw13.SpecParts" = some 12 by kernel_rfl).symm.trans hf) |>.symm
  obtain rfl : fn = Tryd.f12 := (Option.some.inj (Tryd.func12.symm.trans hfn)).symm
  refine ⟨by kernel_rfl, fun j t ht => ?_⟩
  rw [Tryd.params12] at ht
  have hm : t ∈ [88, 24, 54] := by simpa using Array.mem_of_getElem? ht
  have hall : ([88, 24, 54].all fun u => !Tryd.prog.wantsStandIn u) = true := by kernel_rfl
  exact (show Tryd.prog.wantsStandIn t = false by simpa using List.all_eq_true.1 hall t hm)
end Go.Proofs.YtfojdjmeefglcaaDoor.specParts
namespace Go.Proofs.YtfojdjmeefglcaaDoor

/-- The law SpecParts answers true for every input. -/
theorem specParts_card : Rows.SpecPartsCardSaid :=
  Claim7.holds_tied_plain_at .later [] _ _ _ _ specParts.said (fun _ h => by cases h) (by kernel_rfl) (fun _ h => by cases h) specParts_row_tie rfl ⟨rfl, rfl⟩ (by kernel_rfl) rfl specParts.plain (by kernel_rfl)
end Go.Proofs.YtfojdjmeefglcaaDoor
