/-
  Texts put together: Db, D4.
-/
import Derived.Test.YtnphokhehacfnaaGreatDoorPz00
import Derived.Test.YtnphokhehacfnaaGreatDoorPz03
import Derived.Test.YtnphokhehacfnaaGreatDoorPz04
import Derived.Test.YtnphokhehacfnaaGreatDoorPz06
namespace Go.Proofs.YtnphokhehacfnaaGreatDoor
open Go.RowKit

theorem all_dropD {α : Type} {p : α → Bool} {l : List α} {j : Nat} {x : α} (h : l[j]? = some x) : (l.drop j).all p = (p x && (l.drop (j + 1)).all p) := by
  obtain ⟨hj, rfl⟩ := List.getElem?_eq_some_iff.1 h
  rw [List.drop_eq_getElem_cons hj, List.all_cons]
theorem wholeUpto_bad {cols : List Col} {vs : List Val} {k : Nat} {c : Col} {v : Val} (hc : cols[k]? = some c) (hv : vs[k]? = some v) (h : wholeB c.kind v = false) : wholeUpto cols vs cols.length = false := by
  cases e : wholeUpto cols vs cols.length with
  | false => rfl
  | true =>
    have := wholeUpto_iff.1 e k (List.getElem?_eq_some_iff.1 hc).1 c v hc hv
    rw [h] at this
    cases this
theorem wholeUpto_succ {cols : List Col} {vs : List Val} {k : Nat} {c : Col} {v : Val} (h : wholeUpto cols vs k = true) (hc : cols[k]? = some c) (hv : vs[k]? = some v) (hw : wholeB c.kind v = true) : wholeUpto cols vs (k + 1) = true := by
  rw [wholeUpto, h, hc, hv]
  exact hw
set_option maxRecDepth 100000 in
set_option maxHeartbeats 8000000 in
theorem mmay_any {w0 : World} (t : TbA) (w : World) (h : TbIn w0 t) [f0 : Fut w0 w] :
    Calls Tryz.prog 19 #[.agg #[.int .i64 t.s.id, .slice t.As t.s.cols.length t.cs, .int .i64 t.s.next, .int .i64 t.sid, .slice t.Af t.fs.length t.cf, .slice t.Ar t.rs.length t.cr]] w fun e w' => e = .returned (.bool (tabB t.tb)) ∧ Step w w' := by
  have z0_ := f0.below.size
  obtain ⟨T, hT⟩ : ∃ T, tabB t.tb = T := ⟨_, rfl⟩
  have HT := hide hT
  rw [hT]
  clear hT
  have hvl := h.rows.hcap; have hvm := h.rows.hcapm
  have hcl := h.sch.len; have hfl := h.flds.len
  have PM : Hid (∀ w' [Fut w w'], Calls Tryz.prog 54 #[.agg #[.int .i64 t.s.id, .slice t.As t.s.cols.length t.cs, .int .i64 t.s.next]] w' fun e w'' => e = .returned (.bool (mayB t.s)) ∧ Step w' w'') := fun w' hf => haveI := Fut.tr f0 hf; pmay t.s t.As t.cs w' h.sch
  have PS : Hid (∀ w' [Fut w w'], Calls Tryz.prog 55 #[.agg #[.int .i64 t.sid, .slice t.Af t.fs.length t.cf], .agg #[.int .i64 t.s.id, .slice t.As t.s.cols.length t.cs, .int .i64 t.s.next]] w' fun e w'' => e = .returned (.bool (specB t.sid t.fs t.s)) ∧ Step w' w'') := fun w' hf => haveI := Fut.tr f0 hf; pspec_any t.sid t.fs t.Af t.cf t.s t.As t.cs w' h.flds h.sch
  obtain ⟨W1, hW⟩ : ∃ W1, W1 = w.alloc (.cells #[.int .i64 t.s.id, .slice t.As t.s.cols.length t.cs, .int .i64 t.s.next, .int .i64 t.sid, .slice t.Af t.fs.length t.cf, .slice t.Ar t.rs.length t.cr] 30) := ⟨_, rfl⟩
  have SW : Step w W1 := by rw [hW]; exact Step.of
  have HTB : Hid (Blk W1 w.heap.size 30 [.int .i64 t.s.id, .slice t.As t.s.cols.length t.cs, .int .i64 t.s.next, .int .i64 t.sid, .slice t.Af t.fs.length t.cf, .slice t.Ar t.rs.length t.cr]) := by rw [hW]; exact Blk.new w [.int .i64 t.s.id, .slice t.As t.s.cols.length t.cs, .int .i64 t.s.next, .int .i64 t.sid, .slice t.Af t.fs.length t.cf, .slice t.Ar t.rs.length t.cr] 30
  have HW := hide hW
  have hzW := SW.size
  clear hW
  cases hm : mayB t.s with
  | false =>
    obtain rfl : T = false := by rw [← HT.out]; exact tabB_no (.inl hm)
    rw [hm] at PM
    clear hm
    go_enter Tryz.func19, Tryz.ntmps19
    go_upto_region 1 with fail
    rw [← HW.out]
    obtain ⟨z0, z1, z2, z3, z4, z5⟩ := At.z6 (HTB.out.fut (w' := W1)).at0; have lz := (HTB.out.fut (w' := W1)).lt
    go_wp2_with ((go_at_call 54; (with_reducible refine (PM.out _).mono ?_); rintro e w3 ⟨rfl, hs3⟩; clear z0 z1 z2 z3 z4 z5 lz; obtain ⟨z0, z1, z2, z3, z4, z5⟩ := At.z6 (HTB.out.fut (w' := w3)).at0; have lz := (HTB.out.fut (w' := w3)).lt))
    go_ret
    exact ⟨rfl, Step.of⟩
  | true =>
    have HM := hide hm
    rw [hm] at PM
    clear hm
    cases hp : specB t.sid t.fs t.s with
    | false =>
      obtain rfl : T = false := by rw [← HT.out]; exact tabB_no (.inr (.inl hp))
      rw [hp] at PS
      clear hp
      go_enter Tryz.func19, Tryz.ntmps19
      go_upto_region 1 with fail
      rw [← HW.out]
      obtain ⟨z0, z1, z2, z3, z4, z5⟩ := At.z6 (HTB.out.fut (w' := W1)).at0; have lz := (HTB.out.fut (w' := W1)).lt
      go_wp2_with (first | (go_at_call 54; (with_reducible refine (PM.out _).mono ?_); rintro e w3 ⟨rfl, hs3⟩; clear z0 z1 z2 z3 z4 z5 lz; obtain ⟨z0, z1, z2, z3, z4, z5⟩ := At.z6 (HTB.out.fut (w' := w3)).at0; have lz := (HTB.out.fut (w' := w3)).lt) | (go_at_call 55; (with_reducible refine (PS.out _).mono ?_); rintro e w4 ⟨rfl, hs4⟩; clear z0 z1 z2 z3 z4 z5 lz; obtain ⟨z0, z1, z2, z3, z4, z5⟩ := At.z6 (HTB.out.fut (w' := w4)).at0; have lz := (HTB.out.fut (w' := w4)).lt))
      go_ret
      exact ⟨rfl, Step.of⟩
    | true =>
      have HP := hide hp
      rw [hp] at PS
      clear hp
      by_cases hlen : 4096 < t.rs.length
      · obtain rfl : T = false := by rw [← HT.out]; exact tabB_no (.inr (.inr (.inl (by simpa [TbA.tb] using hlen))))
        have hlen2 : (4096 : Int) < (t.rs.length : Int) := by omega
        clear hlen
        go_enter Tryz.func19, Tryz.ntmps19
        go_upto_region 1 with fail
        rw [← HW.out]
        obtain ⟨z0, z1, z2, z3, z4, z5⟩ := At.z6 (HTB.out.fut (w' := W1)).at0; have lz := (HTB.out.fut (w' := W1)).lt
        go_wp2_with (first | (go_at_call 54; (with_reducible refine (PM.out _).mono ?_); rintro e w3 ⟨rfl, hs3⟩; clear z0 z1 z2 z3 z4 z5 lz; obtain ⟨z0, z1, z2, z3, z4, z5⟩ := At.z6 (HTB.out.fut (w' := w3)).at0; have lz := (HTB.out.fut (w' := w3)).lt) | (go_at_call 55; (with_reducible refine (PS.out _).mono ?_); rintro e w4 ⟨rfl, hs4⟩; clear z0 z1 z2 z3 z4 z5 lz; obtain ⟨z0, z1, z2, z3, z4, z5⟩ := At.z6 (HTB.out.fut (w' := w4)).at0; have lz := (HTB.out.fut (w' := w4)).lt))
        go_ret
        exact ⟨rfl, Step.of⟩
      · have hlen2 : ¬ (4096 : Int) < (t.rs.length : Int) := by omega
        have HR : Hid ((t.rs.map RowA.vs).all (rowW t.s.cols) = T) := by
          show _ = _
          rw [← HT.out, tabB, show mayB t.tb.s = true from HM.out, show specB t.tb.sid t.tb.fs t.tb.s = true from HP.out, show decide (t.tb.rows.length ≤ 4096) = true by simp [TbA.tb]; omega]
          simp [TbA.tb]
        clear hlen
        go_enter Tryz.func19, Tryz.ntmps19
        go_upto_region 1 with fail
        rw [← HW.out]
        obtain ⟨z0, z1, z2, z3, z4, z5⟩ := At.z6 (HTB.out.fut (w' := W1)).at0; have lz := (HTB.out.fut (w' := W1)).lt
        go_wp2_with (first | (go_at_call 54; (with_reducible refine (PM.out _).mono ?_); rintro e w3 ⟨rfl, hs3⟩; clear z0 z1 z2 z3 z4 z5 lz; obtain ⟨z0, z1, z2, z3, z4, z5⟩ := At.z6 (HTB.out.fut (w' := w3)).at0; have lz := (HTB.out.fut (w' := w3)).lt) | (go_at_call 55; (with_reducible refine (PS.out _).mono ?_); rintro e w4 ⟨rfl, hs4⟩; clear z0 z1 z2 z3 z4 z5 lz; obtain ⟨z0, z1, z2, z3, z4, z5⟩ := At.z6 (HTB.out.fut (w' := w4)).at0; have lz := (HTB.out.fut (w' := w4)).lt))
        clear z0 z1 z2 z3 z4 z5 lz hlen2
        go_loopw [4, 5, 6, 28] (fun _ _ _ i wr => ∃ k : Nat, k ≤ t.rs.length ∧ i = .int .i64 k ∧ Hid (((t.rs.map RowA.vs).drop k).all (rowW t.s.cols) = T) ∧ Step W1 wr) (fun _ _ _ i _ => t.rs.length - (intOf i).toNat)
        case atStart => exact ⟨0, Nat.zero_le _, rfl, HR.out, Step.of⟩
        case round =>
          clear HR
          obtain ⟨k, hk, rfl, HR, hst⟩ := hrel
          obtain ⟨wo, rfl⟩ : ∃ x : World, x = wr := ⟨_, rfl⟩
          have hzo := hst.size
          by_cases hlt : k < t.rs.length
          · obtain ⟨b, off, hA, hb, r, hrk, hri, q0⟩ := h.rows.row (w' := wo) inferInstance (k := k) hlt
            have hcr := hri.hcap; have hcrm := hri.hcapm
            have HSTR := hide hri.strs
            have HR : Hid ((rowW t.s.cols r.vs && ((t.rs.map RowA.vs).drop (k + 1)).all (rowW t.s.cols)) = T) := by
              show _ = _
              rw [← HR.out, all_dropD (show (t.rs.map RowA.vs)[k]? = some r.vs by simp [hrk])]
            obtain ⟨RR, hRR⟩ : ∃ RR, ((t.rs.map RowA.vs).drop (k + 1)).all (rowW t.s.cols) = RR := ⟨_, rfl⟩
            rw [hRR] at HR
            have HRR := hide hRR
            clear hRR
            have hkl : (k : Int) < (t.rs.length : Int) := by omega
            have hk0 : (0 : Int) ≤ (k : Int) := by omega
            have hlb : b < wo.heap.size := by omega
            have HRA := hide hri.at_
            have tb_ := HTB.out.fut (w' := wo)
            obtain ⟨z0, z1, z2, z3, z4, z5⟩ := At.z6 tb_.at0
            have lz := tb_.lt
            obtain ⟨W2, hW2⟩ : ∃ W2, W2 = wo.alloc (.cells #[.slice r.A r.vs.length r.cap] 67) := ⟨_, rfl⟩
            have SW2 : Step wo W2 := by rw [hW2]; exact Step.of
            have HRB : Hid (Blk W2 wo.heap.size 67 [.slice r.A r.vs.length r.cap]) := by rw [hW2]; exact Blk.new wo [.slice r.A r.vs.length r.cap] 67
            have HW2 := hide hW2
            have hzW2 := SW2.size
            rw [hA] at z5
            have HAA := hide hA
            rw [hA]
            clear hW2 hrk hri tb_ hA
            by_cases hlr : r.vs.length = t.s.cols.length
            · have hnb : ((r.vs.length : Int) != (t.s.cols.length : Int)) = false := by rw [hlr]; exact bne_self_eq_false _
              have HLR := hide hlr
              have HR : Hid ((wholeUpto t.s.cols r.vs t.s.cols.length && RR) = T) := by
                show _ = _
                rw [← HR.out, rowW, hlr]
                simp
              clear hlr
              go_upto_region 6 with fail
              rw [HW2.out.symm]
              have g0 := At.z1 HRB.out.at0
              have lg := HRB.out.lt
              have tb_ := HTB.out.fut (w' := W2)
              clear z0 z1 z2 z3 z4 z5 lz
              obtain ⟨z0, z1, z2, z3, z4, z5⟩ := At.z6 tb_.at0
              have lz := tb_.lt
              clear tb_
              go_wp2_with fail
              clear z0 z1 z2 z3 z4 z5 lz g0 lg q0 hlb hnb
              go_loopw [5, 6, 44] (fun _ _ i wr => ∃ j : Nat, j ≤ t.s.cols.length ∧ i = .int .i64 j ∧ Hid (wholeUpto t.s.cols r.vs j = true) ∧ Step W2 wr) (fun _ _ i _ => t.s.cols.length - (intOf i).toNat)
              case atStart => exact ⟨0, Nat.zero_le _, rfl, rfl, Step.of⟩
              case round =>
                obtain ⟨j, hj, rfl, HU, hst2⟩ := hrel
                obtain ⟨wi, rfl⟩ : ∃ x : World, x = wr := ⟨_, rfl⟩
                have hzi := hst2.size
                by_cases hlj : j < t.s.cols.length
                · obtain ⟨b3, off3, hA3, hb3, hc3⟩ := h.sch.at_.elem (w' := wi) inferInstance (k := j) (by simpa using hlj)
                  obtain ⟨c, hc⟩ : ∃ c, t.s.cols[j]? = some c := ⟨_, List.getElem?_eq_getElem hlj⟩
                  obtain ⟨v, hv⟩ : ∃ v, r.vs[j]? = some v := ⟨_, List.getElem?_eq_getElem (by rw [HLR.out]; exact hlj)⟩
                  obtain ⟨b4, off4, hA4, hb4, hc4⟩ := HRA.out.elem (w' := wi) inferInstance (k := j) (by rw [List.length_map, HLR.out]; exact hlj)
                  obtain ⟨c0, c1, c2⟩ := At.l3 (hc3 j c.cells (by simp [hc]))
                  obtain ⟨v0, v1, v2, v3⟩ := At.l4 (hc4 j v.cells (by simp [hv]))
                  have hlb3 : b3 < wi.heap.size := by omega
                  have hlb4 : b4 < wi.heap.size := by omega
                  have hjl : (j : Int) < (t.s.cols.length : Int) := by omega
                  have hjr : (j : Int) < (r.vs.length : Int) := by rw [HLR.out]; omega
                  have hj0 : (0 : Int) ≤ (j : Int) := by omega
                  have WV := fun w' => whole_any c.kind v w' (HSTR.out v (List.mem_of_getElem? hv))
                  have HC := hide hc; have HV := hide hv
                  obtain ⟨wj, hwj⟩ : ∃ wj, wj = wi.alloc (.cells #[.int .i64 c.id, .string c.name, .int .i64 c.kind] 90) := ⟨_, rfl⟩
                  have SW3 : Step wi wj := by rw [hwj]; exact Step.of
                  have HCB : Hid (Blk wj wi.heap.size 90 [.int .i64 c.id, .string c.name, .int .i64 c.kind]) := by rw [hwj]; exact Blk.new wi [.int .i64 c.id, .string c.name, .int .i64 c.kind] 90
                  have HWJ := hide hwj
                  have hzj := SW3.size
                  have g0 := At.z1 (HRB.out.fut (w' := wj)).at0
                  have lg := (HRB.out.fut (w' := wj)).lt
                  rw [hA4] at g0
                  have HA3 := hide hA3; have HA4 := hide hA4
                  rw [hA3]
                  have v0' : wj.cell? ⟨b4, off4 + j * 4, none⟩ = some (.int .i64 v.kind) := by rw [(bcell SW3.below).1 b4 _ hlb4]; exact v0
                  have v1' : wj.cell? ⟨b4, off4 + j * 4 + 1, none⟩ = some (.int .i64 v.i) := by rw [(bcell SW3.below).1 b4 _ hlb4]; exact v1
                  have v2' : wj.cell? ⟨b4, off4 + j * 4 + 2, none⟩ = some (.bool v.b) := by rw [(bcell SW3.below).1 b4 _ hlb4]; exact v2
                  have v3' : wj.cell? ⟨b4, off4 + j * 4 + 3, none⟩ = some (.string v.s) := by rw [(bcell SW3.below).1 b4 _ hlb4]; exact v3
                  have hlb5 : b4 < wj.heap.size := by omega
                  obtain ⟨x0, x1, x2⟩ := At.z3 HCB.out.at0
                  have lx := HCB.out.lt
                  clear hc3 hc4 hc hv hwj hA3 hA4 v0 v1 v2 v3
                  cases hw : wholeB c.kind v with
                  | false =>
                    obtain rfl : T = false := by rw [← HR.out, wholeUpto_bad HC.out HV.out hw]; rfl
                    rw [hw] at WV
                    have WV := hide WV
                    clear hw
                    go_upto_region 11 with fail
                    rw [HWJ.out.symm]
                    refine wp_region_held_drew (S := (fun w' => Step wj w' ∧ (∀ b o, b < wj.heap.size → w'.cell? ⟨b, o, none⟩ = wj.cell? ⟨b, o, none⟩))) (by kernel_rfl) (by (try dsimp only); (first | exact ⟨hS1, hS2⟩ | exact ⟨Step.of, (bcell (fut _ _)).1⟩)) (fun hHeld => ?_)
                    refine wT 0 49 (by assumption) ?_
                    refine wT 2 51 (by assumption) ?_
                    refine wT 4 53 (by assumption) ?_
                    refine wT 1 50 (by assumption) ?_
                    refine wT 3 52 (by assumption) ?_
                    refine wT 5 54 (by assumption) ?_
                    refine wT 6 55 (by assumption) ?_
                    refine wpAnyH_ready (rs := [7]) (by kernel_rfl) (by simp) ?_
                    refine AllReadyH.cons (o := ⟨some 56, _, _, _, _, _⟩) rfl (fun K hK => ?_) AllReadyH.nil
                    obtain ⟨hS1, hS2⟩ := hHeld
                    go_simp
                    (go_at_call 56; (with_reducible refine (WV.out _).mono ?_); rintro e w6 ⟨rfl, hs6⟩)
                    refine hK.out _ _ (by (try dsimp only); (first | exact ⟨hS1, hS2⟩ | exact ⟨Step.of, (bcell (fut _ _)).1⟩)) (fun hHeld => ?_)
                    clear hK K
                    (try simp only [Act.put, List.setIfInBounds_toArray, List.set_cons_zero, List.set_cons_succ])
                    refine wT 8 57 (by assumption) ?_
                    refine wpAnyH_done (by kernel_rfl) ?_ _
                    go_wp2_with fail
                    go_ret
                    exact ⟨rfl, Step.of⟩
                  | true =>
                    have HU2 := hide (wholeUpto_succ HU.out HC.out HV.out hw)
                    rw [hw] at WV
                    have WV := hide WV
                    clear hw
                    go_upto_region 11 with fail
                    rw [HWJ.out.symm]
                    refine wp_region_held_drew (S := (fun w' => Step wj w' ∧ (∀ b o, b < wj.heap.size → w'.cell? ⟨b, o, none⟩ = wj.cell? ⟨b, o, none⟩))) (by kernel_rfl) (by (try dsimp only); (first | exact ⟨hS1, hS2⟩ | exact ⟨Step.of, (bcell (fut _ _)).1⟩)) (fun hHeld => ?_)
                    refine wT 0 49 (by assumption) ?_
                    refine wT 2 51 (by assumption) ?_
                    refine wT 4 53 (by assumption) ?_
                    refine wT 1 50 (by assumption) ?_
                    refine wT 3 52 (by assumption) ?_
                    refine wT 5 54 (by assumption) ?_
                    refine wT 6 55 (by assumption) ?_
                    refine wpAnyH_ready (rs := [7]) (by kernel_rfl) (by simp) ?_
                    refine AllReadyH.cons (o := ⟨some 56, _, _, _, _, _⟩) rfl (fun K hK => ?_) AllReadyH.nil
                    obtain ⟨hS1, hS2⟩ := hHeld
                    go_simp
                    (go_at_call 56; (with_reducible refine (WV.out _).mono ?_); rintro e w6 ⟨rfl, hs6⟩)
                    refine hK.out _ _ (by (try dsimp only); (first | exact ⟨hS1, hS2⟩ | exact ⟨Step.of, (bcell (fut _ _)).1⟩)) (fun hHeld => ?_)
                    clear hK K
                    (try simp only [Act.put, List.setIfInBounds_toArray, List.set_cons_zero, List.set_cons_succ])
                    refine wT 8 57 (by assumption) ?_
                    refine wpAnyH_done (by kernel_rfl) ?_ _
                    go_wp2_with fail
                    go_roundw
                    case rel => exact ⟨j + 1, by omega, by go_num, HU2.out, Step.of⟩
                    case measure => simp [intOf]; omega
                · obtain rfl : j = t.s.cols.length := by omega
                  have HR2 : Hid (((t.rs.map RowA.vs).drop (k + 1)).all (rowW t.s.cols) = T) := by
                    show _ = _
                    rw [HRR.out, ← HR.out, HU.out]
                    rfl
                  go_wp2_with fail
                  go_roundw
                  case rel => exact ⟨k + 1, by omega, by go_num, HR2.out, Step.of⟩
                  case measure => simp [intOf]; omega
            · have hnb : ((r.vs.length : Int) != (t.s.cols.length : Int)) = true := by rw [bne_iff_ne]; omega
              obtain rfl : T = false := by
                rw [← HR.out, rowW, beq_eq_false_iff_ne.2 hlr]
                rfl
              clear hlr
              go_upto_region 6 with fail
              rw [HW2.out.symm]
              have g0 := At.z1 HRB.out.at0
              have lg := HRB.out.lt
              have tb_ := HTB.out.fut (w' := W2)
              clear z0 z1 z2 z3 z4 z5 lz
              obtain ⟨z0, z1, z2, z3, z4, z5⟩ := At.z6 tb_.at0
              have lz := tb_.lt
              clear tb_
              go_wp2_with fail
              go_ret
              exact ⟨rfl, Step.of⟩
          · obtain rfl : k = t.rs.length := by omega
            obtain rfl : T = true := by rw [← HR.out, List.drop_of_length_le (by simp)]; rfl
            go_wp2_with fail
            go_ret
            exact ⟨rfl, Step.of⟩
end Go.Proofs.YtnphokhehacfnaaGreatDoor

namespace Go.Proofs.YtnphokhehacfnaaGreatDoor
open Go.RowKit

theorem txs_fit (l : List ByteArray) : Fit 1 (strCells l) := Fit.map (f := fun s : ByteArray => [Value.string s]) (fun s => ⟨rfl, fun u hu => by simp at hu; rw [hu]; rfl⟩) l
theorem cloneC_any (A : Option Addr) (cap : Nat) (cols : List Col) (w : World) (hat : SlAt w w.heap.size 3 A (cols.map Col.cells)) (hlen : cols.length ≤ 4398046511103) :
    Calls Tryz.prog 71 #[.slice A cols.length cap] w fun e w' => ∃ A' cap', e = .returned (.slice A' cols.length cap') ∧ cols.length ≤ cap' ∧ cap' ≤ maxLen ∧ Own w' w.heap.size 90 3 (.slice A' cols.length cap') (cols.map Col.cells) ∧ Below w.heap.size w w' := by
  cases A with
  | none =>
    have h0 : cols = [] := by
      cases cols with
      | nil => rfl
      | cons c r => obtain ⟨_, _, h, _⟩ := hat (by simp); cases h
    subst h0
    have hq := fun w => Lib.run_eql_slice_nil (P := Tryz.prog) w 22 90 none 0 cap 0 0 Tryz.underlying22
    go_enter Tryz.func71, Tryz.ntmps71
    go_wp2
    go_ret
    exact ⟨_, _, rfl, Nat.le_refl _, by simp [maxLen], Own.nil_ _ _ _ _, Below.refl _ _⟩
  | some ad =>
    have hq := fun w => Lib.run_eql_slice_nil (P := Tryz.prog) w 22 90 (some ad) cols.length cap 0 0 Tryz.underlying22
    go_enter Tryz.func71, Tryz.ntmps71
    go_wp2_with (at_builtin; refine wpList_append_sl rfl (.tmp 5) (.tmp 6) 22 rfl eiCol (base := w.heap.size) (xs := []) rfl ?own Fit.nil_ (ys := cols.map Col.cells) rfl (by simp) (hat.al _) (cols_fit _) (by simp; omega) (by simp) (N := cols.length) (by simp) ?_; rotate_left; intro A' cap' w' hc1 hc2 hown _ hbel)
    case own => exact ⟨by simp, .inr ⟨w.heap.size, 0, #[], rfl, Nat.le_refl _, heap_alloc_new w _, by simp, by simp, by simp, by simp⟩⟩
    go_ret
    exact ⟨_, _, rfl, hc1, hc2, hown, (below_a1 w _).trans hbel⟩

theorem cloneV_any (A : Option Addr) (cap : Nat) (cols : List Val) (w : World) (hat : SlAt w w.heap.size 4 A (cols.map Val.cells)) (hlen : cols.length ≤ 3518437208780) :
    Calls Tryz.prog 86 #[.slice A cols.length cap] w fun e w' => ∃ A' cap', e = .returned (.slice A' cols.length cap') ∧ cols.length ≤ cap' ∧ cap' ≤ maxLen ∧ Own w' w.heap.size 36 4 (.slice A' cols.length cap') (cols.map Val.cells) ∧ Below w.heap.size w w' := by
  cases A with
  | none =>
    have h0 : cols = [] := by
      cases cols with
      | nil => rfl
      | cons c r => obtain ⟨_, _, h, _⟩ := hat (by simp); cases h
    subst h0
    have hq := fun w => Lib.run_eql_slice_nil (P := Tryz.prog) w 65 36 none 0 cap 0 0 Tryz.underlying65
    go_enter Tryz.func86, Tryz.ntmps86
    go_wp2
    go_ret
    exact ⟨_, _, rfl, Nat.le_refl _, by simp [maxLen], Own.nil_ _ _ _ _, Below.refl _ _⟩
  | some ad =>
    have hq := fun w => Lib.run_eql_slice_nil (P := Tryz.prog) w 65 36 (some ad) cols.length cap 0 0 Tryz.underlying65
    go_enter Tryz.func86, Tryz.ntmps86
    go_wp2_with (at_builtin; refine wpList_append_sl rfl (.tmp 5) (.tmp 6) 65 rfl eiV4 (base := w.heap.size) (xs := []) rfl ?own Fit.nil_ (ys := cols.map Val.cells) rfl (by simp) (hat.al _) (vals_fit _) (by simp; omega) (by simp) (N := cols.length) (by simp) ?_; rotate_left; intro A' cap' w' hc1 hc2 hown _ hbel)
    case own => exact ⟨by simp, .inr ⟨w.heap.size, 0, #[], rfl, Nat.le_refl _, heap_alloc_new w _, by simp, by simp, by simp, by simp⟩⟩
    go_ret
    exact ⟨_, _, rfl, hc1, hc2, hown, (below_a1 w _).trans hbel⟩

theorem cloneF_any (A : Option Addr) (cap : Nat) (cols : List Fld) (w : World) (hat : SlAt w w.heap.size 3 A (cols.map Fld.cells)) (hlen : cols.length ≤ 5864062014800) :
    Calls Tryz.prog 85 #[.slice A cols.length cap] w fun e w' => ∃ A' cap', e = .returned (.slice A' cols.length cap') ∧ cols.length ≤ cap' ∧ cap' ≤ maxLen ∧ Own w' w.heap.size 92 3 (.slice A' cols.length cap') (cols.map Fld.cells) ∧ Below w.heap.size w w' := by
  cases A with
  | none =>
    have h0 : cols = [] := by
      cases cols with
      | nil => rfl
      | cons c r => obtain ⟨_, _, h, _⟩ := hat (by simp); cases h
    subst h0
    have hq := fun w => Lib.run_eql_slice_nil (P := Tryz.prog) w 25 92 none 0 cap 0 0 Tryz.underlying25
    go_enter Tryz.func85, Tryz.ntmps85
    go_wp2
    go_ret
    exact ⟨_, _, rfl, Nat.le_refl _, by simp [maxLen], Own.nil_ _ _ _ _, Below.refl _ _⟩
  | some ad =>
    have hq := fun w => Lib.run_eql_slice_nil (P := Tryz.prog) w 25 92 (some ad) cols.length cap 0 0 Tryz.underlying25
    go_enter Tryz.func85, Tryz.ntmps85
    go_wp2_with (at_builtin; refine wpList_append_sl rfl (.tmp 5) (.tmp 6) 25 rfl eiFld (base := w.heap.size) (xs := []) rfl ?own Fit.nil_ (ys := cols.map Fld.cells) rfl (by simp) (hat.al _) (flds_fit _) (by simp; omega) (by simp) (N := cols.length) (by simp) ?_; rotate_left; intro A' cap' w' hc1 hc2 hown _ hbel)
    case own => exact ⟨by simp, .inr ⟨w.heap.size, 0, #[], rfl, Nat.le_refl _, heap_alloc_new w _, by simp, by simp, by simp, by simp⟩⟩
    go_ret
    exact ⟨_, _, rfl, hc1, hc2, hown, (below_a1 w _).trans hbel⟩

end Go.Proofs.YtnphokhehacfnaaGreatDoor

