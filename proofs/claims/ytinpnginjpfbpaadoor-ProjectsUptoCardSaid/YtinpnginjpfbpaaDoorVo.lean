/-
  The law Projects: its walk.
-/
import Derived.Test.YtinpnginjpfbpaaDoorVl
import Derived.Test.YtinpnginjpfbpaaDoorVm
import Derived.Test.YtinpnginjpfbpaaDoorLs
import Derived.Test.YtinpnginjpfbpaaDoorKed
namespace Go.Proofs.YtinpnginjpfbpaaDoor
open Go.RowKit

theorem toR_small {s : Sch} {rows : Int} {fc : List Col} {vals : List (List Val)} (hv : ∀ vs ∈ vals, ∀ v ∈ vs, v.s.size ≤ 9223372036854775807) : (toR s rows fc vals).1.length ≤ 5864062014800 ∧ ∀ vs ∈ (toR s rows fc vals).1, vs.length ≤ 3518437208780 ∧ ∀ v ∈ vs, v.s.size ≤ 9223372036854775807 := by
  by_cases h : (toR s rows fc vals).2 = 0
  · obtain ⟨⟨hm, hf, _⟩, he⟩ := toR_ok h
    have h1 := (fileB_iff.1 hf).1
    have h12 := (may_fine hm).1
    rw [he]
    refine ⟨by simp; omega, fun vs hvs => ?_⟩
    obtain ⟨i, _, rfl⟩ := List.mem_map.1 hvs
    refine ⟨by rw [toRow_len, fromT_len]; omega, fun v hv2 => ?_⟩
    obtain ⟨a, _, rfl⟩ := List.mem_map.1 hv2
    unfold toCell
    split
    · refine clean_small _ fun _ => ?_
      rw [List.getD_eq_getElem?_getD]
      cases e : (vals.getD a.toNat [])[i]? with
      | none => exact Nat.zero_le _
      | some u =>
        rw [List.getD_eq_getElem?_getD] at e
        cases e2 : vals[a.toNat]? with
        | none => rw [e2] at e; simp at e
        | some us =>
          rw [e2] at e
          exact hv us (List.mem_of_getElem? e2) u (List.mem_of_getElem? e)
    · exact Nat.zero_le _
  · rw [toR_bad h]
    exact ⟨by simp, fun vs h => by simp at h⟩
theorem LentS.fut {w w' : World} {s : Sch} {A : Option Addr} {c : Nat} (h : LentS w s A c) [k : Fut w w'] : LentS w' s A c := ⟨h.room, h.capm, h.len, h.at_.fut, h.names⟩
theorem LentS.put3 {w : World} {s : Sch} {A : Option Addr} {c n b : Nat} (h : LentS w s A c) (ha : Abv n A) (hb : b < n) (x y z : Value) : LentS (((w.setCell ⟨b, 0, none⟩ x).setCell ⟨b, 1, none⟩ y).setCell ⟨b, 2, none⟩ z) s A c :=
  ⟨h.room, h.capm, h.len, ((h.at_.put ha hb x).put ha hb y).put ha hb z, h.names⟩
theorem OwnL.put3 {w : World} {b n c g : Nat} {A : Option Addr} {os : List RowA} {cs : List Value} (h : OwnL w b A n c os) (hb : Blk w g 24 cs) (x y z : Value) : OwnL (((w.setCell ⟨g, 0, none⟩ x).setCell ⟨g, 1, none⟩ y).setCell ⟨g, 2, none⟩ z) b A n c os :=
  ⟨((h.out.set_other hb (by decide) 0 x).set_other (hb.set_ 0 x) (by decide) 1 y).set_other ((hb.set_ 0 x).set_ 1 y) (by decide) 2 z, fun r hr => (((h.rows r hr).set_other hb (by decide) 0 x).set_other (hb.set_ 0 x) (by decide) 1 y).set_other ((hb.set_ 0 x).set_ 1 y) (by decide) 2 z, h.caps⟩
theorem pickR_small {s : Sch} {rs : List (List Val)} {names : List ByteArray} (hl : rs.length ≤ 5864062014800) (hn : names.length ≤ 3518437208780) (hv : ∀ vs ∈ rs, ∀ v ∈ vs, v.s.size ≤ 9223372036854775807) : (pickR s rs names).1.length ≤ 5864062014800 ∧ ∀ vs ∈ (pickR s rs names).1, vs.length ≤ 3518437208780 ∧ ∀ v ∈ vs, v.s.size ≤ 9223372036854775807 := by
  rw [pickR_eq]
  split
  · refine ⟨by simpa using hl, fun vs hvs => ?_⟩
    obtain ⟨us, hus, rfl⟩ := List.mem_map.1 hvs
    refine ⟨by rw [pickRow_len, pickFr_len]; exact hn, fun v hv2 => ?_⟩
    obtain ⟨k, _, rfl⟩ := List.mem_map.1 hv2
    refine clean_small _ fun _ => ?_
    rw [List.getD_eq_getElem?_getD]
    cases e : us[k.toNat]? with
    | none => exact Nat.zero_le _
    | some u => exact hv us hus u (List.mem_of_getElem? e)
  · exact ⟨Nat.zero_le _, fun vs hvs => by simp at hvs⟩
theorem rin_of {w : World} {b c : Nat} {A : Option Addr} {os : List RowA} {T : List (List Val)} (h : OwnR w b A os.length c os) (he : os.map RowA.vs = T) (hs : T.length ≤ 5864062014800 ∧ ∀ vs ∈ T, vs.length ≤ 3518437208780 ∧ ∀ v ∈ vs, v.s.size ≤ 9223372036854775807) : RowsIn w os A c := by
  subst he
  exact h.rin (by simpa using hs.1) hs.2
theorem len_of {os : List RowA} {T : List (List Val)} (he : os.map RowA.vs = T) (hs : T.length ≤ 5864062014800 ∧ ∀ vs ∈ T, vs.length ≤ 3518437208780 ∧ ∀ v ∈ vs, v.s.size ≤ 9223372036854775807) : os.length ≤ 5864062014800 := by
  subst he
  simpa using hs.1
theorem vlen_of {os : List RowA} {T : List (List Val)} (he : os.map RowA.vs = T) (hs : T.length ≤ 5864062014800 ∧ ∀ vs ∈ T, vs.length ≤ 3518437208780 ∧ ∀ v ∈ vs, v.s.size ≤ 9223372036854775807) {r : RowA} (hr : r ∈ os) : r.vs.length ≤ 4611686018427387904 := by
  subst he
  exact Nat.le_trans (hs.2 r.vs (List.mem_map.2 ⟨r, hr, rfl⟩)).1 (by decide)
theorem kept_of {w X : World} {os rs : List RowA} {A1 A2 : Option Addr} {c1 c2 : Nat} (b : Nat) (h1 : OwnL X b A1 rs.length c1 os) (h2 : RowsIn w rs A2 c2) (he : os.map RowA.vs = rs.map RowA.vs) : Hid (∀ w' [Fut w w'] [Fut X w'], Calls Tryd.prog 14 #[.slice A1 rs.length c1, .slice A2 rs.length c2] w' fun e w'' => e = .returned (.bool true) ∧ Step w' w'') := by
  have hl : os.length = rs.length := by have := congrArg List.length he; simpa using this
  refine hide (fun w' _ _ => ?_)
  rw [← hl] at h1
  have := keptRows_any b os rs A1 A2 c1 c2 w' h1 h2 he
  rw [hl] at this
  exact this
set_option maxRecDepth 100000 in
set_option maxHeartbeats 16000000 in
theorem projects_any (s : Sch) (As : Option Addr) (cs : Nat) (d : DatA) (rs : List RowA) (Ar : Option Addr) (cr : Nat) (names : List ByteArray) (An : Option Addr) (cn : Nat) (w : World)
    (hs : SchIn w s As cs) (hd : DatIn w d) (hr : RowsIn w rs Ar cr) (hn : SlAt w w.heap.size 1 An (strCells names)) (hnl : names.length ≤ 1048576) :
    Calls Tryd.prog 3 #[.agg #[.int .i64 s.id, .slice As s.cols.length cs, .int .i64 s.next], .agg #[.int .i64 d.rows, .slice d.A d.cols.length d.cap, .slice d.Av d.vals.length d.cv], .slice Ar rs.length cr, .slice An names.length cn] w fun e w' => e = .returned (.bool true) ∧ Step w w' := by
  have hrm := hr.hcapm; have hdm := hd.vals.hcapm
  obtain ⟨W, hW⟩ : ∃ W, W = (w.alloc (.cells #[.int .i64 s.id, .slice As s.cols.length cs, .int .i64 s.next] 24)).alloc (.cells #[.int .i64 d.rows, .slice d.A d.cols.length d.cap, .slice d.Av d.vals.length d.cv] 27) := ⟨_, rfl⟩
  have SW : Step w W := by rw [hW]; exact Step.of
  have HSB : Hid (Blk W w.heap.size 24 [.int .i64 s.id, .slice As s.cols.length cs, .int .i64 s.next]) := by rw [hW]; exact (Blk.new w [.int .i64 s.id, .slice As s.cols.length cs, .int .i64 s.next] 24).alloc _
  have HDB : Hid (Blk W (w.heap.size + 1) 27 [.int .i64 d.rows, .slice d.A d.cols.length d.cap, .slice d.Av d.vals.length d.cv]) := by rw [hW]; exact Blk.new_at (by simp) [.int .i64 d.rows, .slice d.A d.cols.length d.cap, .slice d.Av d.vals.length d.cv] 27
  have HW := hide hW
  have hzW := SW.size
  have hlW := HDB.out.lt
  clear hW
  have LSC := fun w' [Fut w w'] => lendSchemaO_any s As cs w' hs
  have LR1 := hide (fun w' [Fut w w'] => lendRows_any d.vals d.Av d.cv w' hd.vals)
  have LR2 := hide (fun w' [Fut w w'] => lendRows_any rs Ar cr w' hr)
  obtain ⟨T, hT⟩ : ∃ T, toR s d.rows d.cols d.vss = T := ⟨_, rfl⟩
  obtain ⟨V, hV⟩ : ∃ V, pickR s (rs.map RowA.vs) names = V := ⟨_, rfl⟩
  have HTS : Hid (T.1.length ≤ 5864062014800 ∧ ∀ vs ∈ T.1, vs.length ≤ 3518437208780 ∧ ∀ v ∈ vs, v.s.size ≤ 9223372036854775807) := by
    show _
    rw [← hT]
    refine toR_small fun vs hvs v hv => ?_
    obtain ⟨r, hr_, rfl⟩ := List.mem_map.1 hvs
    exact (hd.vals.rows r hr_).strs v hv
  have HVS : Hid (V.1.length ≤ 5864062014800 ∧ ∀ vs ∈ V.1, vs.length ≤ 3518437208780 ∧ ∀ v ∈ vs, v.s.size ≤ 9223372036854775807) := by
    show _
    rw [← hV]
    refine pickR_small (by simpa using hrm) (by omega) fun vs hvs v hv => ?_
    obtain ⟨r, hr_, rfl⟩ := List.mem_map.1 hvs
    exact (hr.rows r hr_).strs v hv
  have RT := fun w' [Fut w w'] => rto_any s As cs d w' hs hd
  have RP := fun w' [Fut w w'] => rpick_any s As cs rs Ar cr names An cn w' hs hr hn (by omega)
  rw [hT] at RT
  rw [hV] at RP
  unfold Sch.val at LSC
  have LSC := hide LSC; have RT := hide RT; have RP := hide RP
  have HT := hide hT; have HV := hide hV
  clear hT hV
  go_enter Tryd.func3, Tryd.ntmps3
  go_upto_region 1 with (fail)
  rw [← HW.out]
  have q_ := HSB.out.fut (w' := W)
  obtain ⟨q0, q1, q2⟩ := At.z3 q_.at0
  have lq := q_.lt
  clear q_
  have y_ := HDB.out.fut (w' := W)
  obtain ⟨y0, y1, y2⟩ := At.z3 y_.at0
  have ly := y_.lt
  clear y_
  go_cut [9, 10, 11] from 20 to 26 (fun g y z wx => ∃ (g9 : Nat) (AX : Option Addr) (cX : Nat) (AY : Option Addr) (cY : Nat) (AZ : Option Addr) (cZ : Nat) (o1 o2 : List RowA) (b1 b2 : Nat), g = .pointer (some ⟨g9, 0, none⟩) ∧ y = .slice AY d.vals.length cY ∧ z = .slice AZ rs.length cZ ∧ Blk wx g9 24 [.int .i64 s.id, .slice AX s.cols.length cX, .int .i64 s.next] ∧ LentS wx s AX cX ∧ o1.map RowA.vs = d.vals.map RowA.vs ∧ o2.map RowA.vs = rs.map RowA.vs ∧ OwnL wx b1 AY d.vals.length cY o1 ∧ OwnL wx b2 AZ rs.length cZ o2 ∧ Step W wx)
  case first =>
    refine wp_region_held_drew (S := (fun w' => Step W w' ∧ (∀ b o, b < W.heap.size → w'.cell? ⟨b, o, none⟩ = W.cell? ⟨b, o, none⟩))) (by kernel_rfl) (by (try dsimp only); (first | exact ⟨hS1, hS2⟩ | exact ⟨Step.of, (bcell (fut _ _)).1⟩)) (fun hHeld => ?_)
    refine wpAnyH_take (i := 0) (oi := ⟨some 20, _, _, _, _, _⟩) (v := ?_) rfl (by kernel_rfl) (by kernel_rfl) (by kernel_rfl) (fun _ _ _ h => h) (Or.inl ⟨by rfl, ?_⟩) (by assumption) ?_
    rotate_left
    · ((intro w hSw); (try dsimp only at hSw); go_simp; (try with_reducible rfl))
    (try simp only [Act.put, List.setIfInBounds_toArray, List.set_cons_zero, List.set_cons_succ])
    refine wpAnyH_take (i := 2) (oi := ⟨some 22, _, _, _, _, _⟩) (v := ?_) rfl (by kernel_rfl) (by kernel_rfl) (by kernel_rfl) (fun _ _ _ h => h) (Or.inl ⟨by rfl, ?_⟩) (by assumption) ?_
    rotate_left
    · ((intro w hSw); (try dsimp only at hSw); go_simp; (try with_reducible rfl))
    (try simp only [Act.put, List.setIfInBounds_toArray, List.set_cons_zero, List.set_cons_succ])
    refine wpAnyH_take (i := 5) (oi := ⟨some 25, _, _, _, _, _⟩) (v := ?_) rfl (by kernel_rfl) (by kernel_rfl) (by kernel_rfl) (fun _ _ _ h => h) (Or.inl ⟨by rfl, ?_⟩) (by assumption) ?_
    rotate_left
    · ((intro w hSw); (try dsimp only at hSw); go_simp; (try with_reducible rfl))
    (try simp only [Act.put, List.setIfInBounds_toArray, List.set_cons_zero, List.set_cons_succ])
    refine wpAnyH_take (i := 3) (oi := ⟨some 23, _, _, _, _, _⟩) (v := ?_) rfl (by kernel_rfl) (by kernel_rfl) (by kernel_rfl) (fun _ _ _ h => h) (Or.inl ⟨by rfl, ?_⟩) (by assumption) ?_
    rotate_left
    · ((intro w hSw); (try dsimp only at hSw); go_simp; (try with_reducible rfl))
    (try simp only [Act.put, List.setIfInBounds_toArray, List.set_cons_zero, List.set_cons_succ])
    refine wpAnyH_ready (rs := [1, 7]) (by kernel_rfl) (by simp) ?_
    refine AllReadyH.cons (o := ⟨some 21, _, _, _, _, _⟩) rfl (fun K hK => ?_) (AllReadyH.cons (o := ⟨some 9, _, _, _, _, _⟩) rfl (fun K hK => ?_) AllReadyH.nil)
    · obtain ⟨hS1, hS2⟩ := hHeld
      go_simp
      (go_at_call 4; (with_reducible refine (LSC.out _).mono ?_); rintro e w5 ⟨AX, cX, rfl, hLS, hab, hs5⟩; have HLS := hide hLS; have HAB := hide hab; clear hLS hab; (first | (have b_ := HB9.out.fut (w' := w5); have f9 := b_.free; have l9 := b_.lt; obtain ⟨g0, g1, g2⟩ := At.z3 b_.at0; clear b_) | skip))
      refine hK.out _ _ (by (try dsimp only); (first | exact ⟨hS1, hS2⟩ | exact ⟨Step.of, (bcell (fut _ _)).1⟩)) (fun hHeld => ?_)
      clear hK K
      (try simp only [Act.put, List.setIfInBounds_toArray, List.set_cons_zero, List.set_cons_succ])
      refine wpAnyH_ready (rs := [4, 7]) (by kernel_rfl) (by simp) ?_
      refine AllReadyH.cons (o := ⟨some 24, _, _, _, _, _⟩) rfl (fun K hK => ?_) (AllReadyH.cons (o := ⟨some 9, _, _, _, _, _⟩) rfl (fun K hK => ?_) AllReadyH.nil)
      · obtain ⟨hS1, hS2⟩ := hHeld
        go_simp
        (go_at_call 5; (with_reducible refine (LR1.out _).mono ?_); rintro e w6 ⟨AY, cY, o1, rfl, ho1, hw1, hs6⟩; have HO1 := hide ho1; have HW1 := hide hw1; clear ho1 hw1; (try clear f9 l9 g0 g1 g2); (first | (have b_ := HB9.out.fut (w' := w6); have f9 := b_.free; have l9 := b_.lt; obtain ⟨g0, g1, g2⟩ := At.z3 b_.at0; clear b_) | skip))
        refine hK.out _ _ (by (try dsimp only); (first | exact ⟨hS1, hS2⟩ | exact ⟨Step.of, (bcell (fut _ _)).1⟩)) (fun hHeld => ?_)
        clear hK K
        (try simp only [Act.put, List.setIfInBounds_toArray, List.set_cons_zero, List.set_cons_succ])
        refine wpAnyH_ready (rs := [6, 7]) (by kernel_rfl) (by simp) ?_
        refine AllReadyH.cons (o := ⟨some 26, _, _, _, _, _⟩) rfl (fun K hK => ?_) (AllReadyH.cons (o := ⟨some 9, _, _, _, _, _⟩) rfl (fun K hK => ?_) AllReadyH.nil)
        · obtain ⟨hS1, hS2⟩ := hHeld
          go_simp
          (go_at_call 5; (with_reducible refine (LR2.out _).mono ?_); rintro e w7 ⟨AZ, cZ, o2, rfl, ho2, hw2, hs7⟩; have HO2 := hide ho2; have HW2 := hide hw2; clear ho2 hw2; (try clear f9 l9 g0 g1 g2); (first | (have b_ := HB9.out.fut (w' := w7); have f9 := b_.free; have l9 := b_.lt; obtain ⟨g0, g1, g2⟩ := At.z3 b_.at0; clear b_) | skip))
          refine hK.out _ _ (by (try dsimp only); (first | exact ⟨hS1, hS2⟩ | exact ⟨Step.of, (bcell (fut _ _)).1⟩)) (fun hHeld => ?_)
          clear hK K
          (try simp only [Act.put, List.setIfInBounds_toArray, List.set_cons_zero, List.set_cons_succ])
          refine wpAnyH_ready (rs := [7]) (by kernel_rfl) (by simp) ?_
          refine AllReadyH.cons (o := ⟨some 9, _, _, _, _, _⟩) rfl (fun K hK => ?_) AllReadyH.nil
          (go_simp; first | have HB9 := hide (Blk.new w7 [.int .i64 0, .slice none 0 0, .int .i64 0] 24) | have HB9 := hide (Blk.new w6 [.int .i64 0, .slice none 0 0, .int .i64 0] 24) | have HB9 := hide (Blk.new w5 [.int .i64 0, .slice none 0 0, .int .i64 0] 24) | have HB9 := hide (Blk.new W [.int .i64 0, .slice none 0 0, .int .i64 0] 24))
          refine hK.out _ _ (by (try dsimp only); (exact ⟨Step.of, (bcell (fut _ _)).1⟩)) (fun hHeld => ?_)
          clear hK K
          (try simp only [Act.put, List.setIfInBounds_toArray, List.set_cons_zero, List.set_cons_succ])
          refine wpAnyH_ready (rs := [8]) (by kernel_rfl) (by simp) ?_
          refine AllReadyH.cons (o := ⟨none, _, _, _, _, _⟩) rfl (fun K hK => ?_) AllReadyH.nil
          go_simp
          refine hK.out _ _ (by (try dsimp only); (exact ⟨Step.of, (bcell (fut _ _)).1⟩)) (fun hHeld => ?_)
          clear hK K
          (try simp only [Act.put, List.setIfInBounds_toArray, List.set_cons_zero, List.set_cons_succ])
          refine wpAnyH_take (i := 9) (oi := ⟨some 10, _, _, _, _, _⟩) (v := ?_) rfl (by kernel_rfl) (by kernel_rfl) (by kernel_rfl) (fun _ _ _ h => h) (Or.inl ⟨by rfl, ?_⟩) (by assumption) ?_
          rotate_left
          · ((intro w hSw); (try dsimp only at hSw); go_simp; (try with_reducible rfl))
          (try simp only [Act.put, List.setIfInBounds_toArray, List.set_cons_zero, List.set_cons_succ])
          refine wpAnyH_take (i := 10) (oi := ⟨some 11, _, _, _, _, _⟩) (v := ?_) rfl (by kernel_rfl) (by kernel_rfl) (by kernel_rfl) (fun _ _ _ h => h) (Or.inl ⟨by rfl, ?_⟩) (by assumption) ?_
          rotate_left
          · ((intro w hSw); (try dsimp only at hSw); go_simp; (try with_reducible rfl))
          (try simp only [Act.put, List.setIfInBounds_toArray, List.set_cons_zero, List.set_cons_succ])
          refine wpAnyH_done (by kernel_rfl) ?_ _
          go_wp2_with fail
          go_meet
          case rel => first
            | exact ⟨_, AX, cX, AY, cY, AZ, cZ, o1, o2, _, _, rfl, rfl, rfl, Blk.new w7 [.int .i64 s.id, .slice AX s.cols.length cX, .int .i64 s.next] 24, HLS.out.fut, HO1.out, HO2.out, HW1.out.fut, HW2.out.fut, Step.of⟩
            | exact ⟨_, AX, cX, AY, cY, AZ, cZ, o1, o2, _, _, rfl, rfl, rfl, (((HB9.out.fut (w' := w7)).set_ 0 (.int .i64 s.id)).set_ 1 (.slice AX s.cols.length cX)).set_ 2 (.int .i64 s.next), (by first | exact HLS.out.fut | exact (HLS.out.fut (w' := w7)).put3 HAB.out (by first | omega | (simp; done) | (simp; omega)) _ _ _), HO1.out, HO2.out, (HW1.out.fut (w' := w7)).put3 (HB9.out.fut (w' := w7)) _ _ _, (HW2.out.fut (w' := w7)).put3 (HB9.out.fut (w' := w7)) _ _ _, Step.of⟩
        · (go_simp; first | have HB9 := hide (Blk.new w7 [.int .i64 0, .slice none 0 0, .int .i64 0] 24) | have HB9 := hide (Blk.new w6 [.int .i64 0, .slice none 0 0, .int .i64 0] 24) | have HB9 := hide (Blk.new w5 [.int .i64 0, .slice none 0 0, .int .i64 0] 24) | have HB9 := hide (Blk.new W [.int .i64 0, .slice none 0 0, .int .i64 0] 24))
          refine hK.out _ _ (by (try dsimp only); (exact ⟨Step.of, (bcell (fut _ _)).1⟩)) (fun hHeld => ?_)
          clear hK K
          (try simp only [Act.put, List.setIfInBounds_toArray, List.set_cons_zero, List.set_cons_succ])
          refine wpAnyH_ready (rs := [6]) (by kernel_rfl) (by simp) ?_
          refine AllReadyH.cons (o := ⟨some 26, _, _, _, _, _⟩) rfl (fun K hK => ?_) AllReadyH.nil
          obtain ⟨hS1, hS2⟩ := hHeld
          go_simp
          (go_at_call 5; (with_reducible refine (LR2.out _).mono ?_); rintro e w7 ⟨AZ, cZ, o2, rfl, ho2, hw2, hs7⟩; have HO2 := hide ho2; have HW2 := hide hw2; clear ho2 hw2; (try clear f9 l9 g0 g1 g2); (first | (have b_ := HB9.out.fut (w' := w7); have f9 := b_.free; have l9 := b_.lt; obtain ⟨g0, g1, g2⟩ := At.z3 b_.at0; clear b_) | skip))
          refine hK.out _ _ (by (try dsimp only); (first | exact ⟨hS1, hS2⟩ | exact ⟨Step.of, (bcell (fut _ _)).1⟩)) (fun hHeld => ?_)
          clear hK K
          (try simp only [Act.put, List.setIfInBounds_toArray, List.set_cons_zero, List.set_cons_succ])
          refine wpAnyH_ready (rs := [8]) (by kernel_rfl) (by simp) ?_
          refine AllReadyH.cons (o := ⟨none, _, _, _, _, _⟩) rfl (fun K hK => ?_) AllReadyH.nil
          go_simp
          refine hK.out _ _ (by (try dsimp only); (exact ⟨Step.of, (bcell (fut _ _)).1⟩)) (fun hHeld => ?_)
          clear hK K
          (try simp only [Act.put, List.setIfInBounds_toArray, List.set_cons_zero, List.set_cons_succ])
          refine wpAnyH_take (i := 9) (oi := ⟨some 10, _, _, _, _, _⟩) (v := ?_) rfl (by kernel_rfl) (by kernel_rfl) (by kernel_rfl) (fun _ _ _ h => h) (Or.inl ⟨by rfl, ?_⟩) (by assumption) ?_
          rotate_left
          · ((intro w hSw); (try dsimp only at hSw); go_simp; (try with_reducible rfl))
          (try simp only [Act.put, List.setIfInBounds_toArray, List.set_cons_zero, List.set_cons_succ])
          refine wpAnyH_take (i := 10) (oi := ⟨some 11, _, _, _, _, _⟩) (v := ?_) rfl (by kernel_rfl) (by kernel_rfl) (by kernel_rfl) (fun _ _ _ h => h) (Or.inl ⟨by rfl, ?_⟩) (by assumption) ?_
          rotate_left
          · ((intro w hSw); (try dsimp only at hSw); go_simp; (try with_reducible rfl))
          (try simp only [Act.put, List.setIfInBounds_toArray, List.set_cons_zero, List.set_cons_succ])
          refine wpAnyH_done (by kernel_rfl) ?_ _
          go_wp2_with fail
          go_meet
          case rel => first
            | exact ⟨_, AX, cX, AY, cY, AZ, cZ, o1, o2, _, _, rfl, rfl, rfl, Blk.new w7 [.int .i64 s.id, .slice AX s.cols.length cX, .int .i64 s.next] 24, HLS.out.fut, HO1.out, HO2.out, HW1.out.fut, HW2.out.fut, Step.of⟩
            | exact ⟨_, AX, cX, AY, cY, AZ, cZ, o1, o2, _, _, rfl, rfl, rfl, (((HB9.out.fut (w' := w7)).set_ 0 (.int .i64 s.id)).set_ 1 (.slice AX s.cols.length cX)).set_ 2 (.int .i64 s.next), (by first | exact HLS.out.fut | exact (HLS.out.fut (w' := w7)).put3 HAB.out (by first | omega | (simp; done) | (simp; omega)) _ _ _), HO1.out, HO2.out, (HW1.out.fut (w' := w7)).put3 (HB9.out.fut (w' := w7)) _ _ _, (HW2.out.fut (w' := w7)).put3 (HB9.out.fut (w' := w7)) _ _ _, Step.of⟩
      · (go_simp; first | have HB9 := hide (Blk.new w7 [.int .i64 0, .slice none 0 0, .int .i64 0] 24) | have HB9 := hide (Blk.new w6 [.int .i64 0, .slice none 0 0, .int .i64 0] 24) | have HB9 := hide (Blk.new w5 [.int .i64 0, .slice none 0 0, .int .i64 0] 24) | have HB9 := hide (Blk.new W [.int .i64 0, .slice none 0 0, .int .i64 0] 24))
        refine hK.out _ _ (by (try dsimp only); (exact ⟨Step.of, (bcell (fut _ _)).1⟩)) (fun hHeld => ?_)
        clear hK K
        (try simp only [Act.put, List.setIfInBounds_toArray, List.set_cons_zero, List.set_cons_succ])
        refine wpAnyH_ready (rs := [4]) (by kernel_rfl) (by simp) ?_
        refine AllReadyH.cons (o := ⟨some 24, _, _, _, _, _⟩) rfl (fun K hK => ?_) AllReadyH.nil
        obtain ⟨hS1, hS2⟩ := hHeld
        go_simp
        (go_at_call 5; (with_reducible refine (LR1.out _).mono ?_); rintro e w6 ⟨AY, cY, o1, rfl, ho1, hw1, hs6⟩; have HO1 := hide ho1; have HW1 := hide hw1; clear ho1 hw1; (try clear f9 l9 g0 g1 g2); (first | (have b_ := HB9.out.fut (w' := w6); have f9 := b_.free; have l9 := b_.lt; obtain ⟨g0, g1, g2⟩ := At.z3 b_.at0; clear b_) | skip))
        refine hK.out _ _ (by (try dsimp only); (first | exact ⟨hS1, hS2⟩ | exact ⟨Step.of, (bcell (fut _ _)).1⟩)) (fun hHeld => ?_)
        clear hK K
        (try simp only [Act.put, List.setIfInBounds_toArray, List.set_cons_zero, List.set_cons_succ])
        refine wpAnyH_ready (rs := [6]) (by kernel_rfl) (by simp) ?_
        refine AllReadyH.cons (o := ⟨some 26, _, _, _, _, _⟩) rfl (fun K hK => ?_) AllReadyH.nil
        obtain ⟨hS1, hS2⟩ := hHeld
        go_simp
        (go_at_call 5; (with_reducible refine (LR2.out _).mono ?_); rintro e w7 ⟨AZ, cZ, o2, rfl, ho2, hw2, hs7⟩; have HO2 := hide ho2; have HW2 := hide hw2; clear ho2 hw2; (try clear f9 l9 g0 g1 g2); (first | (have b_ := HB9.out.fut (w' := w7); have f9 := b_.free; have l9 := b_.lt; obtain ⟨g0, g1, g2⟩ := At.z3 b_.at0; clear b_) | skip))
        refine hK.out _ _ (by (try dsimp only); (first | exact ⟨hS1, hS2⟩ | exact ⟨Step.of, (bcell (fut _ _)).1⟩)) (fun hHeld => ?_)
        clear hK K
        (try simp only [Act.put, List.setIfInBounds_toArray, List.set_cons_zero, List.set_cons_succ])
        refine wpAnyH_ready (rs := [8]) (by kernel_rfl) (by simp) ?_
        refine AllReadyH.cons (o := ⟨none, _, _, _, _, _⟩) rfl (fun K hK => ?_) AllReadyH.nil
        go_simp
        refine hK.out _ _ (by (try dsimp only); (exact ⟨Step.of, (bcell (fut _ _)).1⟩)) (fun hHeld => ?_)
        clear hK K
        (try simp only [Act.put, List.setIfInBounds_toArray, List.set_cons_zero, List.set_cons_succ])
        refine wpAnyH_take (i := 9) (oi := ⟨some 10, _, _, _, _, _⟩) (v := ?_) rfl (by kernel_rfl) (by kernel_rfl) (by kernel_rfl) (fun _ _ _ h => h) (Or.inl ⟨by rfl, ?_⟩) (by assumption) ?_
        rotate_left
        · ((intro w hSw); (try dsimp only at hSw); go_simp; (try with_reducible rfl))
        (try simp only [Act.put, List.setIfInBounds_toArray, List.set_cons_zero, List.set_cons_succ])
        refine wpAnyH_take (i := 10) (oi := ⟨some 11, _, _, _, _, _⟩) (v := ?_) rfl (by kernel_rfl) (by kernel_rfl) (by kernel_rfl) (fun _ _ _ h => h) (Or.inl ⟨by rfl, ?_⟩) (by assumption) ?_
        rotate_left
        · ((intro w hSw); (try dsimp only at hSw); go_simp; (try with_reducible rfl))
        (try simp only [Act.put, List.setIfInBounds_toArray, List.set_cons_zero, List.set_cons_succ])
        refine wpAnyH_done (by kernel_rfl) ?_ _
        go_wp2_with fail
        go_meet
        case rel => first
          | exact ⟨_, AX, cX, AY, cY, AZ, cZ, o1, o2, _, _, rfl, rfl, rfl, Blk.new w7 [.int .i64 s.id, .slice AX s.cols.length cX, .int .i64 s.next] 24, HLS.out.fut, HO1.out, HO2.out, HW1.out.fut, HW2.out.fut, Step.of⟩
          | exact ⟨_, AX, cX, AY, cY, AZ, cZ, o1, o2, _, _, rfl, rfl, rfl, (((HB9.out.fut (w' := w7)).set_ 0 (.int .i64 s.id)).set_ 1 (.slice AX s.cols.length cX)).set_ 2 (.int .i64 s.next), (by first | exact HLS.out.fut | exact (HLS.out.fut (w' := w7)).put3 HAB.out (by first | omega | (simp; done) | (simp; omega)) _ _ _), HO1.out, HO2.out, (HW1.out.fut (w' := w7)).put3 (HB9.out.fut (w' := w7)) _ _ _, (HW2.out.fut (w' := w7)).put3 (HB9.out.fut (w' := w7)) _ _ _, Step.of⟩
    · (go_simp; first | have HB9 := hide (Blk.new w7 [.int .i64 0, .slice none 0 0, .int .i64 0] 24) | have HB9 := hide (Blk.new w6 [.int .i64 0, .slice none 0 0, .int .i64 0] 24) | have HB9 := hide (Blk.new w5 [.int .i64 0, .slice none 0 0, .int .i64 0] 24) | have HB9 := hide (Blk.new W [.int .i64 0, .slice none 0 0, .int .i64 0] 24))
      refine hK.out _ _ (by (try dsimp only); (exact ⟨Step.of, (bcell (fut _ _)).1⟩)) (fun hHeld => ?_)
      clear hK K
      (try simp only [Act.put, List.setIfInBounds_toArray, List.set_cons_zero, List.set_cons_succ])
      refine wpAnyH_ready (rs := [1]) (by kernel_rfl) (by simp) ?_
      refine AllReadyH.cons (o := ⟨some 21, _, _, _, _, _⟩) rfl (fun K hK => ?_) AllReadyH.nil
      obtain ⟨hS1, hS2⟩ := hHeld
      go_simp
      (go_at_call 4; (with_reducible refine (LSC.out _).mono ?_); rintro e w5 ⟨AX, cX, rfl, hLS, hab, hs5⟩; have HLS := hide hLS; have HAB := hide hab; clear hLS hab; (first | (have b_ := HB9.out.fut (w' := w5); have f9 := b_.free; have l9 := b_.lt; obtain ⟨g0, g1, g2⟩ := At.z3 b_.at0; clear b_) | skip))
      refine hK.out _ _ (by (try dsimp only); (first | exact ⟨hS1, hS2⟩ | exact ⟨Step.of, (bcell (fut _ _)).1⟩)) (fun hHeld => ?_)
      clear hK K
      (try simp only [Act.put, List.setIfInBounds_toArray, List.set_cons_zero, List.set_cons_succ])
      refine wpAnyH_ready (rs := [4]) (by kernel_rfl) (by simp) ?_
      refine AllReadyH.cons (o := ⟨some 24, _, _, _, _, _⟩) rfl (fun K hK => ?_) AllReadyH.nil
      obtain ⟨hS1, hS2⟩ := hHeld
      go_simp
      (go_at_call 5; (with_reducible refine (LR1.out _).mono ?_); rintro e w6 ⟨AY, cY, o1, rfl, ho1, hw1, hs6⟩; have HO1 := hide ho1; have HW1 := hide hw1; clear ho1 hw1; (try clear f9 l9 g0 g1 g2); (first | (have b_ := HB9.out.fut (w' := w6); have f9 := b_.free; have l9 := b_.lt; obtain ⟨g0, g1, g2⟩ := At.z3 b_.at0; clear b_) | skip))
      refine hK.out _ _ (by (try dsimp only); (first | exact ⟨hS1, hS2⟩ | exact ⟨Step.of, (bcell (fut _ _)).1⟩)) (fun hHeld => ?_)
      clear hK K
      (try simp only [Act.put, List.setIfInBounds_toArray, List.set_cons_zero, List.set_cons_succ])
      refine wpAnyH_ready (rs := [6]) (by kernel_rfl) (by simp) ?_
      refine AllReadyH.cons (o := ⟨some 26, _, _, _, _, _⟩) rfl (fun K hK => ?_) AllReadyH.nil
      obtain ⟨hS1, hS2⟩ := hHeld
      go_simp
      (go_at_call 5; (with_reducible refine (LR2.out _).mono ?_); rintro e w7 ⟨AZ, cZ, o2, rfl, ho2, hw2, hs7⟩; have HO2 := hide ho2; have HW2 := hide hw2; clear ho2 hw2; (try clear f9 l9 g0 g1 g2); (first | (have b_ := HB9.out.fut (w' := w7); have f9 := b_.free; have l9 := b_.lt; obtain ⟨g0, g1, g2⟩ := At.z3 b_.at0; clear b_) | skip))
      refine hK.out _ _ (by (try dsimp only); (first | exact ⟨hS1, hS2⟩ | exact ⟨Step.of, (bcell (fut _ _)).1⟩)) (fun hHeld => ?_)
      clear hK K
      (try simp only [Act.put, List.setIfInBounds_toArray, List.set_cons_zero, List.set_cons_succ])
      refine wpAnyH_ready (rs := [8]) (by kernel_rfl) (by simp) ?_
      refine AllReadyH.cons (o := ⟨none, _, _, _, _, _⟩) rfl (fun K hK => ?_) AllReadyH.nil
      go_simp
      refine hK.out _ _ (by (try dsimp only); (exact ⟨Step.of, (bcell (fut _ _)).1⟩)) (fun hHeld => ?_)
      clear hK K
      (try simp only [Act.put, List.setIfInBounds_toArray, List.set_cons_zero, List.set_cons_succ])
      refine wpAnyH_take (i := 9) (oi := ⟨some 10, _, _, _, _, _⟩) (v := ?_) rfl (by kernel_rfl) (by kernel_rfl) (by kernel_rfl) (fun _ _ _ h => h) (Or.inl ⟨by rfl, ?_⟩) (by assumption) ?_
      rotate_left
      · ((intro w hSw); (try dsimp only at hSw); go_simp; (try with_reducible rfl))
      (try simp only [Act.put, List.setIfInBounds_toArray, List.set_cons_zero, List.set_cons_succ])
      refine wpAnyH_take (i := 10) (oi := ⟨some 11, _, _, _, _, _⟩) (v := ?_) rfl (by kernel_rfl) (by kernel_rfl) (by kernel_rfl) (fun _ _ _ h => h) (Or.inl ⟨by rfl, ?_⟩) (by assumption) ?_
      rotate_left
      · ((intro w hSw); (try dsimp only at hSw); go_simp; (try with_reducible rfl))
      (try simp only [Act.put, List.setIfInBounds_toArray, List.set_cons_zero, List.set_cons_succ])
      refine wpAnyH_done (by kernel_rfl) ?_ _
      go_wp2_with fail
      go_meet
      case rel => first
        | exact ⟨_, AX, cX, AY, cY, AZ, cZ, o1, o2, _, _, rfl, rfl, rfl, Blk.new w7 [.int .i64 s.id, .slice AX s.cols.length cX, .int .i64 s.next] 24, HLS.out.fut, HO1.out, HO2.out, HW1.out.fut, HW2.out.fut, Step.of⟩
        | exact ⟨_, AX, cX, AY, cY, AZ, cZ, o1, o2, _, _, rfl, rfl, rfl, (((HB9.out.fut (w' := w7)).set_ 0 (.int .i64 s.id)).set_ 1 (.slice AX s.cols.length cX)).set_ 2 (.int .i64 s.next), (by first | exact HLS.out.fut | exact (HLS.out.fut (w' := w7)).put3 HAB.out (by first | omega | (simp; done) | (simp; omega)) _ _ _), HO1.out, HO2.out, (HW1.out.fut (w' := w7)).put3 (HB9.out.fut (w' := w7)) _ _ _, (HW2.out.fut (w' := w7)).put3 (HB9.out.fut (w' := w7)) _ _ _, Step.of⟩
  case rest =>
    obtain ⟨g9, AX, cX, AY, cY, AZ, cZ, o1, o2, b1, b2, rfl, rfl, rfl, hg9, hLX, ho1, ho2, hw1, hw2, hsX⟩ := hcut
    obtain ⟨X, rfl⟩ : ∃ x : World, x = wc := ⟨_, rfl⟩
    clear q0 q1 q2 lq y0 y1 y2 ly
    have HX9 := hide hg9; have HLX := hide hLX; have HO1 := hide ho1; have HO2 := hide ho2; have HW1 := hide hw1; have HW2 := hide hw2
    have hl1 : o1.length = d.vals.length := by have := congrArg List.length ho1; simpa using this
    have hl2 : o2.length = rs.length := by have := congrArg List.length ho2; simpa using this
    have HL1 := hide hl1; have HL2 := hide hl2
    have hzX := hsX.size
    have hlX := hg9.lt
    have HR1 : Hid (RowsIn X o1 AY cY) := by
      have h_ := HW1.out
      rw [← hl1] at h_
      refine h_.rin (by omega) (fun vs hv => ?_)
      rw [HO1.out] at hv
      obtain ⟨r, hr_, rfl⟩ := List.mem_map.1 hv
      exact ⟨(hd.vals.rows r hr_).hcapm, (hd.vals.rows r hr_).strs⟩
    have HR2 : Hid (RowsIn X o2 AZ cZ) := by
      have h_ := HW2.out
      rw [← hl2] at h_
      refine h_.rin (by omega) (fun vs hv => ?_)
      rw [HO2.out] at hv
      obtain ⟨r, hr_, rfl⟩ := List.mem_map.1 hv
      exact ⟨(hr.rows r hr_).hcapm, (hr.rows r hr_).strs⟩
    have HDX : Hid (DatIn X ⟨d.rows, d.cols, d.A, d.cap, o1, AY, cY⟩) := ⟨hd.cat.fut, hd.ccap, hd.ccapm, hd.clen, hd.names, HR1.out⟩
    have PT : ∀ w' [Fut X w'], Calls Tryd.prog 6 #[.agg #[.int .i64 s.id, .slice AX s.cols.length cX, .int .i64 s.next], .agg #[.int .i64 d.rows, .slice d.A d.cols.length d.cap, .slice AY d.vals.length cY]] w' fun e w'' => ∃ (A' : Option Addr) (c' : Nat) (os : List RowA), os.map RowA.vs = T.1 ∧ e = .returned (.tuple #[.slice A' os.length c', .int .i64 T.2]) ∧ OwnR w'' w'.heap.size A' os.length c' os ∧ Step w' w'' := by
      intro w' _
      have h_ := pto_any s AX cX ⟨d.rows, d.cols, d.A, d.cap, o1, AY, cY⟩ w' HLX.out.sin HDX.out
      simp only [DatA.vss] at h_
      rw [HO1.out, HL1.out, show toR s d.rows d.cols (d.vals.map RowA.vs) = T from HT.out] at h_
      exact h_
    have PP : ∀ w' [Fut w w'] [Fut X w'], Calls Tryd.prog 8 #[.agg #[.int .i64 s.id, .slice AX s.cols.length cX, .int .i64 s.next], .slice AZ rs.length cZ, .slice An names.length cn] w' fun e w'' => ∃ (A' : Option Addr) (c' : Nat) (os : List RowA), os.map RowA.vs = V.1 ∧ e = .returned (.tuple #[.slice A' os.length c', .int .i64 V.2]) ∧ OwnR w'' w'.heap.size A' os.length c' os ∧ Step w' w'' := by
      intro w' _ _
      have h_ := ppick_any s AX cX o2 AZ cZ names An cn w' HLX.out.sin HR2.out hn (by omega)
      rw [HO2.out, HL2.out, HV.out] at h_
      exact h_
    have PT := hide PT; have PP := hide PP
    clear hg9 hLX ho1 ho2 hw1 hw2
    have q_ := HSB.out.fut (w' := X)
    obtain ⟨q0, q1, q2⟩ := At.z3 q_.at0
    have lq := q_.lt
    clear q_
    have y_ := HDB.out.fut (w' := X)
    obtain ⟨y0, y1, y2⟩ := At.z3 y_.at0
    have ly := y_.lt
    clear y_
    have x_ := HX9.out.fut (w' := X)
    obtain ⟨x0, x1, x2⟩ := At.z3 x_.at0
    have lx := x_.lt
    clear x_
    go_wp2_with (first
      | (go_at_call 6; (with_reducible refine (PT.out _).mono ?_); intro e w3 hr3; obtain ⟨A3, c3, oa, ha, rfl, hoa, hs3⟩ := hr3; have HA := hide ha; have HOA := hide hoa; clear ha hoa; (clear q0 q1 q2 lq y0 y1 y2 ly x0 x1 x2 lx); (have q_ := HSB.out.fut (w' := w3)); (obtain ⟨q0, q1, q2⟩ := At.z3 q_.at0); (have lq := q_.lt); (clear q_); (have y_ := HDB.out.fut (w' := w3)); (obtain ⟨y0, y1, y2⟩ := At.z3 y_.at0); (have ly := y_.lt); (clear y_); (have x_ := HX9.out.fut (w' := w3)); (obtain ⟨x0, x1, x2⟩ := At.z3 x_.at0); (have lx := x_.lt); (clear x_))
      | (go_at_call 7; (with_reducible refine (RT.out _).mono ?_); intro e w4 hr4; obtain ⟨A4, c4, ob, hb, rfl, hob, hs4⟩ := hr4; have HB := hide hb; have HOB := hide hob; clear hb hob; (clear q0 q1 q2 lq y0 y1 y2 ly x0 x1 x2 lx); (have q_ := HSB.out.fut (w' := w4)); (obtain ⟨q0, q1, q2⟩ := At.z3 q_.at0); (have lq := q_.lt); (clear q_); (have y_ := HDB.out.fut (w' := w4)); (obtain ⟨y0, y1, y2⟩ := At.z3 y_.at0); (have ly := y_.lt); (clear y_); (have x_ := HX9.out.fut (w' := w4)); (obtain ⟨x0, x1, x2⟩ := At.z3 x_.at0); (have lx := x_.lt); (clear x_))
      | (go_at_call 8; (with_reducible refine (PP.out _).mono ?_); intro e w5 hr5; obtain ⟨A5, c5, oc, hc, rfl, hoc, hs5⟩ := hr5; have HC := hide hc; have HOC := hide hoc; clear hc hoc; (clear q0 q1 q2 lq y0 y1 y2 ly x0 x1 x2 lx); (have q_ := HSB.out.fut (w' := w5)); (obtain ⟨q0, q1, q2⟩ := At.z3 q_.at0); (have lq := q_.lt); (clear q_); (have y_ := HDB.out.fut (w' := w5)); (obtain ⟨y0, y1, y2⟩ := At.z3 y_.at0); (have ly := y_.lt); (clear y_); (have x_ := HX9.out.fut (w' := w5)); (obtain ⟨x0, x1, x2⟩ := At.z3 x_.at0); (have lx := x_.lt); (clear x_))
      | (go_at_call 9; (with_reducible refine (RP.out _).mono ?_); intro e w6 hr6; obtain ⟨A6, c6, od, hd6, rfl, hod, hs6⟩ := hr6; have HD := hide hd6; have HOD := hide hod; clear hd6 hod; (clear q0 q1 q2 lq y0 y1 y2 ly x0 x1 x2 lx); have R3 := hide (rin_of HOA.out HA.out HTS.out); have R4 := hide (rin_of HOB.out HB.out HTS.out); have R5 := hide (rin_of HOC.out HC.out HVS.out); have R6 := hide (rin_of HOD.out HD.out HVS.out); have S1 := hide (fun w' [Fut w3 w'] [Fut w4 w'] => sameRows_any oa ob A3 A4 c3 c4 w' R3.out R4.out (HA.out.trans HB.out.symm)); have S2 := hide (fun w' [Fut w5 w'] [Fut w6 w'] => sameRows_any oc od A5 A6 c5 c6 w' R5.out R6.out (HC.out.trans HD.out.symm)))
      | (go_at_call 10; (with_reducible refine (S1.out _).mono ?_); rintro e w7 ⟨rfl, hs7⟩)
      | (go_at_call 10; (with_reducible refine (S2.out _).mono ?_); rintro e w8 ⟨rfl, hs8⟩; have hz3 := (fut X w3).size; have hz4 := (fut w3 w4).size; have WA : Hid (WkR w8 X.heap.size A3 oa) := WkR.of_own (HOA.out.fut); have WC : Hid (WkR w8 w4.heap.size A5 oc) := WkR.of_own (HOC.out.fut); have P1 := hide (spoilRowsW_any X.heap.size oa A3 c3 w8 WA.out (by have := len_of HA.out HTS.out; omega) (fun r hr_ => vlen_of HA.out HTS.out hr_)))
      | (go_at_call 11; refine (num_any _ _).mono ?_; rintro e w' ⟨rfl, rfl⟩)
      | (go_at_call 12; (with_reducible refine (P1.out).mono ?_); rintro e w9 ⟨rfl, hp9⟩; have W2 := hide (WC.out.after (by omega) hp9 (fun g hg => Nat.lt_of_lt_of_le (HOA.out.out.lt g (by rw [hg]; rfl)).2 hz4)); have HB9 := hide hp9.below; have P2 := hide (spoilRowsW_any X.heap.size oc A5 c5 w9 W2.out (by have := len_of HC.out HVS.out; omega) (fun r hr_ => vlen_of HC.out HVS.out hr_)); clear hp9)
      | (go_at_call 12; (with_reducible refine (P2.out).mono ?_); rintro e w10 ⟨rfl, hp10⟩; have HB10 := hide hp10.below; clear hp10; have SX : Step X w10 := ⟨(((fut X w8).mono (Nat.le_refl _)).trans HB9.out).trans HB10.out⟩; (have q_ := HSB.out.fut (w' := w10)); (obtain ⟨q0, q1, q2⟩ := At.z3 q_.at0); (have lq := q_.lt); (clear q_); (have y_ := HDB.out.fut (w' := w10)); (obtain ⟨y0, y1, y2⟩ := At.z3 y_.at0); (have ly := y_.lt); (clear y_); (have x_ := HX9.out.fut (w' := w10)); (obtain ⟨x0, x1, x2⟩ := At.z3 x_.at0); (have lx := x_.lt); (clear x_); have KS := fun w' [Fut w w'] [Fut X w'] => keptSchema_any s AX As cX cs w' HLX.out hs; have KR1 : Hid (∀ w' [Fut w w'] [Fut X w'], Calls Tryd.prog 14 #[.slice AY d.vals.length cY, .slice d.Av d.vals.length d.cv] w' fun e w'' => e = .returned (.bool true) ∧ Step w' w'') := (kept_of b1 HW1.out hd.vals HO1.out); have KR2 : Hid (∀ w' [Fut w w'] [Fut X w'], Calls Tryd.prog 14 #[.slice AZ rs.length cZ, .slice Ar rs.length cr] w' fun e w'' => e = .returned (.bool true) ∧ Step w' w'') := (kept_of b2 HW2.out hr HO2.out); unfold Sch.val at KS; have KS := hide KS)
      | (go_at_call 13; (with_reducible refine (KS.out _).mono ?_); rintro e w11 ⟨rfl, hs11⟩; (clear q0 q1 q2 lq y0 y1 y2 ly x0 x1 x2 lx); (have q_ := HSB.out.fut (w' := w11)); (obtain ⟨q0, q1, q2⟩ := At.z3 q_.at0); (have lq := q_.lt); (clear q_); (have y_ := HDB.out.fut (w' := w11)); (obtain ⟨y0, y1, y2⟩ := At.z3 y_.at0); (have ly := y_.lt); (clear y_); (have x_ := HX9.out.fut (w' := w11)); (obtain ⟨x0, x1, x2⟩ := At.z3 x_.at0); (have lx := x_.lt); (clear x_))
      | (go_at_call 14; (with_reducible refine (KR1.out _).mono ?_); rintro e w12 ⟨rfl, hs12⟩; (clear q0 q1 q2 lq y0 y1 y2 ly x0 x1 x2 lx))
      | (go_at_call 14; (with_reducible refine (KR2.out _).mono ?_); rintro e w13 ⟨rfl, hs13⟩)
      | (go_at_call 15; refine (awake14_any _).mono ?_; rintro e w14 ⟨rfl, hs14⟩))
    go_ret
    exact ⟨rfl, Step.of⟩
end Go.Proofs.YtinpnginjpfbpaaDoor
