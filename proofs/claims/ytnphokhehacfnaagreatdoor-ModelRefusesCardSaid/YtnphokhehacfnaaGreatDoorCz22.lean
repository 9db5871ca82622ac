/-
  Texts put together: Dl.
-/
import Derived.Test.YtnphokhehacfnaaGreatDoorCz01
import Derived.Test.YtnphokhehacfnaaGreatDoorCz11
namespace Go.Proofs.YtnphokhehacfnaaGreatDoor
open Go.RowKit

theorem set4_belowD {B : Nat} {w W : World} {g : Nat} (h : Below B w W) (hg : B ≤ g) (o : Nat) (v : Val) : Below B w (set4 W g o v) :=
  (((h.setCell (p := ⟨g, o, none⟩) hg _).setCell (p := ⟨g, o + 1, none⟩) hg _).setCell (p := ⟨g, o + 2, none⟩) hg _).setCell (p := ⟨g, o + 3, none⟩) hg _
theorem set4_cellD (W : World) {g b : Nat} (hn : g ≠ b) (o : Nat) (v : Val) (o' : Nat) : (set4 W g o v).cell? ⟨b, o', none⟩ = W.cell? ⟨b, o', none⟩ := by
  have hn' : b ≠ g := hn.symm
  have e0 := Below.heap_setCell W ⟨g, o, none⟩ (.int .i64 v.kind) b hn'
  have e1 := Below.heap_setCell (W.setCell ⟨g, o, none⟩ (.int .i64 v.kind)) ⟨g, o + 1, none⟩ (.int .i64 v.i) b hn'
  have e2 := Below.heap_setCell ((W.setCell ⟨g, o, none⟩ (.int .i64 v.kind)).setCell ⟨g, o + 1, none⟩ (.int .i64 v.i)) ⟨g, o + 2, none⟩ (.bool v.b) b hn'
  have e3 := Below.heap_setCell (((W.setCell ⟨g, o, none⟩ (.int .i64 v.kind)).setCell ⟨g, o + 1, none⟩ (.int .i64 v.i)).setCell ⟨g, o + 2, none⟩ (.bool v.b)) ⟨g, o + 3, none⟩ (.string v.s) b hn'
  exact World.cell?_of_block (w := W) (e3.trans (e2.trans (e1.trans e0)))
theorem allBad {α : Type} {p : α → Bool} {l : List α} {k : Nat} {x : α} (hx : l[k]? = some x) (h : p x = false) : l.all p = false := by
  cases e : l.all p with
  | false => rfl
  | true => have := List.all_eq_true.1 e x (List.mem_of_getElem? hx); rw [h] at this; cases this
theorem allTake {α : Type} {p : α → Bool} {l : List α} {k : Nat} {x : α} (hx : l[k]? = some x) (h : (l.take k).all p = true) (hp : p x = true) : (l.take (k + 1)).all p = true := by
  rw [List.take_add_one, hx, List.all_append, h]
  simp [hp]
def kindsTo (cols : List Col) (at_ : List Int) (vs : List Val) (j : Nat) : Bool := ((at_.zip vs).take j).all fun p => wholeB (cols.getD p.1.toNat ⟨0, .empty, 0⟩).kind p.2
def putTo (n : Nat) (at_ : List Int) (vs : List Val) (j : Nat) : List Val := ((at_.zip vs).take j).foldl (fun r p => r.set p.1.toNat p.2) (List.replicate n Val.zero)
theorem zip_take {at_ : List Int} {vs : List Val} {j : Nat} {x : Int} {v : Val} (hx : at_[j]? = some x) (hv : vs[j]? = some v) : (at_.zip vs).take (j + 1) = (at_.zip vs).take j ++ [(x, v)] := by
  have hz : (at_.zip vs)[j]? = some (x, v) := by rw [List.getElem?_zip_eq_some]; exact ⟨hx, hv⟩
  rw [List.take_add_one, hz]
  rfl
theorem kindsTo_bad {cols : List Col} {at_ : List Int} {vs : List Val} {j : Nat} {x : Int} {v : Val} (hx : at_[j]? = some x) (hv : vs[j]? = some v) (h : wholeB (cols.getD x.toNat ⟨0, .empty, 0⟩).kind v = false) : kindsP cols at_ vs = false := by
  have hz : (at_.zip vs)[j]? = some (x, v) := by rw [List.getElem?_zip_eq_some]; exact ⟨hx, hv⟩
  exact allBad hz h
theorem places_cons {cols : List Col} {n : ByteArray} {r : List ByteArray} {acc : List Int} : placesP cols (n :: r) acc = if idx (named n) cols < 0 ∨ acc.contains (idx (named n) cols) = true then none else placesP cols r (acc ++ [idx (named n) cols]) := rfl
def growC (s : Sch) (sid : Int) (fs : List Fld) (rows vss : List (List Val)) : Option (List Int) → Except Int Tb
  | none => .error 5
  | some at_ => if vss.all (kindsP s.cols at_) = false then .error 5 else if 4096 < rows.length + vss.length then .error 7 else .ok ⟨s, sid, fs, rows ++ vss.map (putP s.cols.length at_)⟩
theorem grow_eq (t : Tb) (o : Opp) : growP t o = if 64 < o.rows.length then .error 9 else if o.rows.all (opRowB o.cols.length) = false then .error 9 else growC t.s t.sid t.fs t.rows o.rows (placesP t.s.cols o.cols []) := by
  unfold growP growC
  cases placesP t.s.cols o.cols [] <;> rfl
theorem intCells_app (a b : List Int) : intCells (a ++ b) = intCells a ++ intCells b := by simp [intCells]
theorem any_not {l : List Val} : l.any (fun v => !valueB v) = !l.all valueB := by
  rw [← List.not_all_eq_any_not]
/-- Behind the append: what the doer has then. -/
structure Appended (w0 w : World) (g D T O : Nat) (t : TbA) (o : OpA) (A : Option Addr) (c : Nat) (ms : List RowA) : Prop where
  d : Blk w D 86 [.pointer (some ⟨T, 0, none⟩), .pointer (some ⟨O, 0, none⟩)]
  tb : Blk w T 30 [.int .i64 t.s.id, .slice t.As t.s.cols.length t.cs, .int .i64 t.s.next, .int .i64 t.sid, .slice t.Af t.fs.length t.cf, .slice t.Ar t.rs.length t.cr]
  own : TbOwnR w g ⟨t.s, t.As, t.cs, t.sid, t.fs, t.Af, t.cf, t.rs ++ ms, A, c⟩
  mt : Mt g T w0 w
theorem DoneAdd {w0 w w' : World} {g D T O : Nat} {t : TbA} {o : OpA} {A A' : Option Addr} {c c' n : Nat} {ms : List RowA} (h : Doer w g D T O t o) (hm : OwnR w w0.heap.size A n c ms)
    (hown : Own w' g 67 1 (.slice A' (t.rs.length + n) c') (t.rs.map RowA.cells ++ ms.map RowA.cells)) (hgr : w.grownBy w' (Value.slice t.Ar t.rs.length t.cr).ownBlock) (hg : g ≤ w.heap.size) (hgw : g ≤ w0.heap.size ∧ ms.length = n) : Appended w w' g D T O t o A' c' ms := by
  have hr := h.own.rows.rows.out
  refine ⟨h.d.grown hgr (hr.ne_ h.d (by decide)), h.tb.grown hgr (hr.ne_ h.tb (by decide)), ⟨h.own.cols.grown_other hgr fun q hq hh => own_ne hr h.own.cols (by decide) q hh hq, h.own.flds.grown_other hgr fun q hq hh => own_ne hr h.own.flds (by decide) q hh hq, ⟨?_, fun r hrm => ?_⟩⟩, ?_⟩
  · show Own _ _ _ _ (.slice A' (t.rs ++ ms).length c') ((t.rs ++ ms).map RowA.cells)
    rw [List.length_append, List.map_append, hgw.2]
    exact hown
  · have hx : Own w g 36 4 (.slice r.A r.vs.length r.cap) (r.vs.map Val.cells) := by
      rcases List.mem_append.1 hrm with hrm | hrm
      · exact h.own.rows.rows.rows r hrm
      · exact (hm.rows r hrm).more hgw.1
    exact hx.grown_other hgr fun q hq hh => own_ne hr hx (by decide) q hh hq
  · exact ⟨below_of_grown hr hgr hg, fun b e' cur _ _ h3 hb' => hb'.grown hgr (hr.ne_ hb' (fun hh => h3 hh.symm))⟩
theorem Appended.run {w0 w1 w : World} {g D T O : Nat} {t : TbA} {o : OpA} {A : Option Addr} {c n : Nat} {ms : List RowA} {u : Tb} {vss : List (List Val)} (h : Appended w1 w g D T O t o A c ms) (hT : g ≤ T) (hm : Mt g T w0 w1)
    (hv : (t.rs ++ ms).map RowA.vs = vss) {e : Ending} (he : e = .returned (.tuple #[])) (hn : n = (t.rs ++ ms).length) (hu : u = ⟨t.s, t.sid, t.fs, vss⟩) :
    RunR g T w0 (.ok u) e (w.setCell ⟨T, 5, none⟩ (.slice A n c)) := by
  subst hn hu hv he
  exact ⟨(hm.trans h.mt).trans (Mt.cell w hT 5 _), rfl, ⟨t.s, t.As, t.cs, t.sid, t.fs, t.Af, t.cf, t.rs ++ ms, A, c⟩, rfl, h.tb.set_ 5 _, h.own.setT h.tb 5 _⟩

set_option maxRecDepth 100000 in
set_option maxHeartbeats 40000000 in
theorem add_anyD {w1 : World} (g D T O : Nat) (t : TbA) (o : OpA) (w : World) (h : Doer w g D T O t o) (ho : OpIn w1 o) [f1 : Fut w1 w] (hf : TbFine t) (hg : g ≤ w.heap.size) (hn12 : t.s.cols.length ≤ 12) (hn4 : t.rs.length ≤ 4096) :
    Calls Tryz.prog 87 #[.pointer (some ⟨D, 0, none⟩)] w fun e w' => RunR g T w (growP t.tb o.op) e w' := by
  have z1_ := f1.below.size
  have HD := hide h
  have hsch := (h.own.r.tin hf).sch
  have HSC := hide hsch
  obtain ⟨R, hR⟩ : ∃ R, growP t.tb o.op = R := ⟨_, rfl⟩
  have HR := hide hR
  rw [hR]
  clear hR h
  have hcl := ho.clen; have hcc := ho.ccap
  have hrc := ho.rows.hcap; have hrm := ho.rows.hcapm
  obtain ⟨d0, d1⟩ := At.z2 (HD.out.d.fut (w' := w)).at0
  have ld := (HD.out.d.fut (w' := w)).lt
  obtain ⟨t0, t1, t2, t3, t4, t5⟩ := At.z6 (HD.out.tb.fut (w' := w)).at0
  have lt_ := (HD.out.tb.fut (w' := w)).lt
  have ft_ := (HD.out.tb.fut (w' := w)).free
  obtain ⟨o0, o1, o2, o3, o4, o5, o6, o7, o8, o9, o10, o11, o12, o13, o14, o15⟩ := At.zOp (HD.out.op.fut (w' := w)).at0
  have lo := (HD.out.op.fut (w' := w)).lt
  unfold TbA.cells at *
  by_cases h64 : 64 < o.rows.length
  · have HE : Hid (R = .error 9) := by show _ = _; rw [← HR.out, grow_eq, if_pos (show 64 < o.op.rows.length by simpa [OpA.op] using h64)]
    have h64i : (64 : Int) < (o.rows.length : Int) := by omega
    clear h64
    go_enter Tryz.func87, Tryz.ntmps87
    go_wp2_with (go_at_call 122; (with_reducible refine (throw_yes _ _).mono ?_); rintro e w9 ⟨rfl, h9⟩; obtain rfl := h9.symm)
    exact ⟨rfl, by rw [HE.out]; exact ⟨Mt.step hg (fut w _), rfl⟩⟩
  · have h64i : ¬ (64 : Int) < (o.rows.length : Int) := by omega
    have h64n : o.rows.length ≤ 64 := by omega
    have HR1 : Hid ((if (o.rows.map RowA.vs).all (opRowB o.cols.length) = false then .error 9 else growC t.s t.sid t.fs (t.rs.map RowA.vs) (o.rows.map RowA.vs) (placesP t.s.cols o.cols [])) = R) := by
      show _ = _
      rw [← HR.out, grow_eq, if_neg (show ¬ 64 < o.op.rows.length by simpa [OpA.op] using h64)]
      rfl
    clear h64
    go_enter Tryz.func87, Tryz.ntmps87
    go_wp2_with (go_at_call 122; (with_reducible refine (throw_no _ _).mono ?_); rintro e w9 ⟨rfl, h9⟩; obtain rfl := h9.symm)
    clear d0 d1 ld t0 t1 t2 t3 t4 t5 lt_ ft_ o0 o1 o2 o3 o4 o5 o6 o7 o8 o9 o10 o11 o12 o13 o14 o15 lo h64i
    go_loopw [4, 31] (fun _ i wr => ∃ k : Nat, k ≤ o.rows.length ∧ i = .int .i64 k ∧ Hid (((o.rows.map RowA.vs).take k).all (opRowB o.cols.length) = true) ∧ Step w wr) (fun _ i _ => o.rows.length - (intOf i).toNat)
    case atStart => exact ⟨0, Nat.zero_le _, rfl, rfl, Step.of⟩
    case round =>
      obtain ⟨k, hk, rfl, HAL, hst⟩ := hrel
      obtain ⟨wo, rfl⟩ : ∃ x : World, x = wr := ⟨_, rfl⟩
      have hzo := hst.size
      by_cases hlt : k < o.rows.length
      · obtain ⟨b, off, hA, hb, r, hrk, hri, q0⟩ := ho.rows.row (w' := wo) (Fut.tr f1 ⟨hst.below⟩) (k := k) hlt
        have hcr := hri.hcap; have hcrm := hri.hcapm
        have HVK : Hid ((o.rows.map RowA.vs)[k]? = some r.vs) := by show _ = _; simp [hrk]
        have hkl : (k : Int) < (o.rows.length : Int) := by omega
        have hk0 : (0 : Int) ≤ (k : Int) := by omega
        have hlb : b < wo.heap.size := by omega
        have CFV := fun (w' : World) (hq : Fut wo w') => haveI : Fut w1 w' := Fut.tr (Fut.tr f1 ⟨hst.below⟩) hq; containsFuncVal_any (w0 := w1) 137 #[] (fun v => !valueB v) r.A r.cap r.vs w' (by omega) hri.at_ (fun args w => by kernel_rfl) (fun v hv w'' _ => mval1_any v w'' (hri.strs v hv))
        obtain ⟨W2, hW2⟩ : ∃ W2, W2 = wo.alloc (.cells #[.slice r.A r.vs.length r.cap] 67) := ⟨_, rfl⟩
        have SW2 : Step wo W2 := by rw [hW2]; exact Step.of
        have HRB : Hid (Blk W2 wo.heap.size 67 [.slice r.A r.vs.length r.cap]) := by rw [hW2]; exact Blk.new wo [.slice r.A r.vs.length r.cap] 67
        have HW2 := hide hW2
        have hzW2 := SW2.size
        rw [hA]
        clear hW2 hrk hA
        go_upto_region 5 with fail
        rw [HW2.out.symm]
        clear q0
        obtain ⟨d0, d1⟩ := At.z2 (HD.out.d.fut (w' := W2)).at0
        have ld := (HD.out.d.fut (w' := W2)).lt
        obtain ⟨t0, t1, t2, t3, t4, t5⟩ := At.z6 (HD.out.tb.fut (w' := W2)).at0
        have lt_ := (HD.out.tb.fut (w' := W2)).lt
        have ft_ := (HD.out.tb.fut (w' := W2)).free
        obtain ⟨o0, o1, o2, o3, o4, o5, o6, o7, o8, o9, o10, o11, o12, o13, o14, o15⟩ := At.zOp (HD.out.op.fut (w' := W2)).at0
        have lo := (HD.out.op.fut (w' := W2)).lt
        have g0 := At.z1 HRB.out.at0
        have lg := HRB.out.lt
        by_cases hlr : r.vs.length = o.cols.length
        · have hnb : ((r.vs.length : Int) != (o.cols.length : Int)) = false := by rw [hlr]; exact bne_self_eq_false _
          cases hany : r.vs.any (fun v => !valueB v) with
          | true =>
            have HB : Hid (opRowB o.cols.length r.vs = false) := by
              show _ = _
              rw [any_not] at hany
              rw [opRowB, hlr, show r.vs.all valueB = false by simpa using hany]
              simp
            have HE : Hid (R = .error 9) := by show _ = _; rw [← HR1.out, if_pos (allBad HVK.out HB.out)]
            rw [hany] at CFV
            have CFV : Hid (∀ (w' : World) [Fut wo w'], _) := CFV
            clear hany hlr
            refine wp_region_held_drew (S := (fun w' => Step W2 w' ∧ (∀ b o, b < W2.heap.size → w'.cell? ⟨b, o, none⟩ = W2.cell? ⟨b, o, none⟩))) (by kernel_rfl) (by (try dsimp only); (first | exact ⟨hS1, hS2⟩ | exact ⟨Step.of, (bcell (fut _ _)).1⟩)) (fun hHeld => ?_)
            refine wT 0 35 (by assumption) ?_
            refine wT 3 38 (by assumption) ?_
            refine wT 1 36 (by assumption) ?_
            refine wT 4 39 (by assumption) ?_
            refine wT 2 37 (by assumption) ?_
            refine wT 5 40 (by assumption) ?_
            refine wT 6 41 (by assumption) ?_
            refine wT 7 42 (by assumption) ?_
            refine wT 8 43 (by assumption) ?_
            refine wT 9 44 (by assumption) ?_
            refine wT 10 45 (by assumption) ?_
            refine wT 11 46 (by assumption) ?_
            refine wpAnyH_ready (rs := [12]) (by kernel_rfl) (by simp) ?_
            refine AllReadyH.cons (o := ⟨some 47, _, _, _, _, _⟩) rfl (fun K hK => ?_) AllReadyH.nil
            obtain ⟨hS1, hS2⟩ := hHeld
            go_simp
            (go_at_call 136; (with_reducible refine (CFV.out _).mono ?_); rintro e w5 ⟨rfl, hs5⟩)
            refine hK.out _ _ (by (try dsimp only); (first | exact ⟨hS1, hS2⟩ | exact ⟨Step.of, (bcell (fut _ _)).1⟩)) (fun hHeld => ?_)
            clear hK K
            (try simp only [Act.put, List.setIfInBounds_toArray, List.set_cons_zero, List.set_cons_succ])
            refine wT 13 48 (by assumption) ?_
            refine wpAnyH_ready (rs := [14]) (by kernel_rfl) (by simp) ?_
            refine AllReadyH.cons (o := ⟨some 49, _, _, _, _, _⟩) rfl (fun K hK => ?_) AllReadyH.nil
            obtain ⟨hS1, hS2⟩ := hHeld
            go_simp
            (go_at_call 122; (with_reducible refine (throw_yes _ _).mono ?_); rintro e w9 ⟨rfl, h9⟩; obtain rfl := h9.symm)
            exact ⟨rfl, by rw [HE.out]; exact ⟨Mt.step hg (fut w _), rfl⟩⟩
          | false =>
            have HAL2 : Hid (((o.rows.map RowA.vs).take (k + 1)).all (opRowB o.cols.length) = true) := by
              refine allTake HVK.out HAL.out ?_
              rw [any_not] at hany
              rw [opRowB, hlr, show r.vs.all valueB = true by simpa using hany]
              simp
            rw [hany] at CFV
            have CFV : Hid (∀ (w' : World) [Fut wo w'], _) := CFV
            clear hany hlr
            refine wp_region_held_drew (S := (fun w' => Step W2 w' ∧ (∀ b o, b < W2.heap.size → w'.cell? ⟨b, o, none⟩ = W2.cell? ⟨b, o, none⟩))) (by kernel_rfl) (by (try dsimp only); (first | exact ⟨hS1, hS2⟩ | exact ⟨Step.of, (bcell (fut _ _)).1⟩)) (fun hHeld => ?_)
            refine wT 0 35 (by assumption) ?_
            refine wT 3 38 (by assumption) ?_
            refine wT 1 36 (by assumption) ?_
            refine wT 4 39 (by assumption) ?_
            refine wT 2 37 (by assumption) ?_
            refine wT 5 40 (by assumption) ?_
            refine wT 6 41 (by assumption) ?_
            refine wT 7 42 (by assumption) ?_
            refine wT 8 43 (by assumption) ?_
            refine wT 9 44 (by assumption) ?_
            refine wT 10 45 (by assumption) ?_
            refine wT 11 46 (by assumption) ?_
            refine wpAnyH_ready (rs := [12]) (by kernel_rfl) (by simp) ?_
            refine AllReadyH.cons (o := ⟨some 47, _, _, _, _, _⟩) rfl (fun K hK => ?_) AllReadyH.nil
            obtain ⟨hS1, hS2⟩ := hHeld
            go_simp
            (go_at_call 136; (with_reducible refine (CFV.out _).mono ?_); rintro e w5 ⟨rfl, hs5⟩)
            refine hK.out _ _ (by (try dsimp only); (first | exact ⟨hS1, hS2⟩ | exact ⟨Step.of, (bcell (fut _ _)).1⟩)) (fun hHeld => ?_)
            clear hK K
            (try simp only [Act.put, List.setIfInBounds_toArray, List.set_cons_zero, List.set_cons_succ])
            refine wT 13 48 (by assumption) ?_
            refine wpAnyH_ready (rs := [14]) (by kernel_rfl) (by simp) ?_
            refine AllReadyH.cons (o := ⟨some 49, _, _, _, _, _⟩) rfl (fun K hK => ?_) AllReadyH.nil
            obtain ⟨hS1, hS2⟩ := hHeld
            go_simp
            (go_at_call 122; (with_reducible refine (throw_no _ _).mono ?_); rintro e w9 ⟨rfl, h9⟩; obtain rfl := h9.symm)
            refine hK.out _ _ (by (try dsimp only); (first | exact ⟨hS1, hS2⟩ | exact ⟨Step.of, (bcell (fut _ _)).1⟩)) (fun hHeld => ?_)
            clear hK K
            (try simp only [Act.put, List.setIfInBounds_toArray, List.set_cons_zero, List.set_cons_succ])
            refine wpAnyH_done (by kernel_rfl) ?_ _
            go_wp2_with fail
            go_roundw
            case rel => exact ⟨k + 1, by omega, by go_num, HAL2.out, Step.of⟩
            case measure => simp [intOf]; omega
        · have hnb : ((r.vs.length : Int) != (o.cols.length : Int)) = true := by rw [bne_iff_ne]; omega
          have HB : Hid (opRowB o.cols.length r.vs = false) := by
            show _ = _
            rw [opRowB, beq_eq_false_iff_ne.2 hlr]
            rfl
          have HE : Hid (R = .error 9) := by show _ = _; rw [← HR1.out, if_pos (allBad HVK.out HB.out)]
          clear hlr CFV
          refine wp_region_held_drew (S := (fun w' => Step W2 w' ∧ (∀ b o, b < W2.heap.size → w'.cell? ⟨b, o, none⟩ = W2.cell? ⟨b, o, none⟩))) (by kernel_rfl) (by (try dsimp only); (first | exact ⟨hS1, hS2⟩ | exact ⟨Step.of, (bcell (fut _ _)).1⟩)) (fun hHeld => ?_)
          refine wT 0 35 (by assumption) ?_
          refine wT 3 38 (by assumption) ?_
          refine wT 1 36 (by assumption) ?_
          refine wT 4 39 (by assumption) ?_
          refine wT 2 37 (by assumption) ?_
          refine wT 5 40 (by assumption) ?_
          refine wT 6 41 (by assumption) ?_
          refine wT 7 42 (by assumption) ?_
          refine wT 8 43 (by assumption) ?_
          refine wT 9 44 (by assumption) ?_
          refine wpAnyH_take (i := 10) (oi := ⟨some 45, _, _, _, _, _⟩) (v := undef) rfl (by kernel_rfl) (by kernel_rfl) (by kernel_rfl) (fun _ _ _ h => h) (Or.inr ⟨by rfl, rfl⟩) (by assumption) ?_
          (try simp only [Act.put, List.setIfInBounds_toArray, List.set_cons_zero, List.set_cons_succ])
          refine wpAnyH_take (i := 11) (oi := ⟨some 46, _, _, _, _, _⟩) (v := undef) rfl (by kernel_rfl) (by kernel_rfl) (by kernel_rfl) (fun _ _ _ h => h) (Or.inr ⟨by rfl, rfl⟩) (by assumption) ?_
          (try simp only [Act.put, List.setIfInBounds_toArray, List.set_cons_zero, List.set_cons_succ])
          refine wpAnyH_take (i := 12) (oi := ⟨some 47, _, _, _, _, _⟩) (v := undef) rfl (by kernel_rfl) (by kernel_rfl) (by kernel_rfl) (fun _ _ _ h => h) (Or.inr ⟨by rfl, rfl⟩) (by assumption) ?_
          (try simp only [Act.put, List.setIfInBounds_toArray, List.set_cons_zero, List.set_cons_succ])
          refine wT 13 48 (by assumption) ?_
          refine wpAnyH_ready (rs := [14]) (by kernel_rfl) (by simp) ?_
          refine AllReadyH.cons (o := ⟨some 49, _, _, _, _, _⟩) rfl (fun K hK => ?_) AllReadyH.nil
          obtain ⟨hS1, hS2⟩ := hHeld
          go_simp
          (go_at_call 122; (with_reducible refine (throw_yes _ _).mono ?_); rintro e w9 ⟨rfl, h9⟩; obtain rfl := h9.symm)
          exact ⟨rfl, by rw [HE.out]; exact ⟨Mt.step hg (fut w _), rfl⟩⟩
      · obtain rfl : k = o.rows.length := by omega
        have HALL : Hid ((o.rows.map RowA.vs).all (opRowB o.cols.length) = true) := by
          show _ = _
          have := HAL.out
          rwa [List.take_of_length_le (by simp)] at this
        have HR2 : Hid (growC t.s t.sid t.fs (t.rs.map RowA.vs) (o.rows.map RowA.vs) (placesP t.s.cols o.cols []) = R) := by
          show _ = _
          rw [← HR1.out, if_neg (by rw [HALL.out]; simp)]
        obtain ⟨d0, d1⟩ := At.z2 (HD.out.d.fut (w' := wo)).at0
        have ld := (HD.out.d.fut (w' := wo)).lt
        obtain ⟨t0, t1, t2, t3, t4, t5⟩ := At.z6 (HD.out.tb.fut (w' := wo)).at0
        have lt_ := (HD.out.tb.fut (w' := wo)).lt
        have ft_ := (HD.out.tb.fut (w' := wo)).free
        obtain ⟨o0, o1, o2, o3, o4, o5, o6, o7, o8, o9, o10, o11, o12, o13, o14, o15⟩ := At.zOp (HD.out.op.fut (w' := wo)).at0
        have lo := (HD.out.op.fut (w' := wo)).lt
        go_wp2_with fail
        clear d0 d1 ld t0 t1 t2 t3 t4 t5 lt_ ft_ o0 o1 o2 o3 o4 o5 o6 o7 o8 o9 o10 o11 o12 o13 o14 o15 lo hlt HAL
        obtain ⟨PR, hPR⟩ : ∃ PR, placesP t.s.cols o.cols [] = PR := ⟨_, rfl⟩
        rw [hPR] at HR2
        have HPR := hide hPR
        clear hPR HR1
        go_loopw [5, 7, 8, 56] (fun tv _ _ i wr => ∃ (k : Nat) (A' : Option Addr) (c' : Nat) (to_ : List Int), k ≤ o.cols.length ∧ i = .int .i64 k ∧ tv = .slice A' k c' ∧ Hid (to_.length = k) ∧ Hid (∀ x ∈ to_, 0 ≤ x ∧ x < (t.s.cols.length : Int)) ∧ Hid (placesP t.s.cols (o.cols.drop k) to_ = PR) ∧ Own wr w.heap.size 3 1 (.slice A' k c') (intCells to_) ∧ Step w wr) (fun _ _ _ i _ => o.cols.length - (intOf i).toNat)
        case atStart => exact ⟨0, none, 0, [], Nat.zero_le _, rfl, rfl, rfl, (fun x h => by simp at h), HPR.out, Own.nil_ _ _ _ _, hst⟩
        case round =>
          clear HPR hst hzo
          obtain ⟨k, A', c', to_, hk, rfl, rfl, HTL, HTB, HPL, hown, hst⟩ := hrel
          have HTO := hide hown; clear hown
          obtain ⟨wi, rfl⟩ : ∃ x : World, x = wr := ⟨_, rfl⟩
          have hzi := hst.size
          by_cases hlt : k < o.cols.length
          · obtain ⟨b, off, hA, hb, hc⟩ := ho.cols.elem (w' := wi) (Fut.tr f1 ⟨hst.below⟩) (k := k) (by simpa [strCells] using hlt)
            obtain ⟨nm, hnm⟩ : ∃ nm, o.cols[k]? = some nm := ⟨_, List.getElem?_eq_getElem hlt⟩
            have n0 := At.l1 (hc k [.string nm] (by simp [strCells, hnm]))
            simp only [Nat.mul_one] at n0
            have hkl : (k : Int) < (o.cols.length : Int) := by omega
            have hk0 : (0 : Int) ≤ (k : Int) := by omega
            have hlb : b < wi.heap.size := by omega
            obtain ⟨x, hx⟩ : ∃ x, idx (named nm) t.s.cols = x := ⟨_, rfl⟩
            have HPL2 : Hid ((if x < 0 ∨ to_.contains x = true then none else placesP t.s.cols (o.cols.drop (k + 1)) (to_ ++ [x])) = PR) := by
              show _ = _
              rw [← HPL.out, List.drop_eq_getElem_cons hlt, places_cons, (List.getElem?_eq_some_iff.1 hnm).2, hx]
            have hxb : x < (t.s.cols.length : Int) := by have := (idx_bd (named nm) t.s.cols).2; omega
            have HXB := hide hxb
            have FD : Hid (∀ (w' : World) [Fut w w'], Calls Tryz.prog 125 #[.agg #[.int .i64 t.s.id, .slice t.As t.s.cols.length t.cs, .int .i64 t.s.next], .string nm] w' fun e w'' => e = .returned (.int .i64 x) ∧ Step w' w'') := fun w' hq => by
              have := ((HSC.out.below hq.below).find nm)
              rw [hx] at this
              exact this.mono fun e w'' h => ⟨h.1, ⟨h.2⟩⟩
            have CI : Hid (∀ (w' : World) [Fut wi w'], Calls Tryz.prog 139 #[.slice A' k c', .int .i64 x] w' fun e w'' => e = .returned (.bool (to_.contains x)) ∧ Step w' w'') := fun w' hq => by
              have := containsInt_any (w0 := wi) A' c' to_ x w' (by rw [HTL.out]; omega) (HTO.out.sl (int_fit _).len)
              rw [HTL.out] at this
              exact this
            rw [hA]
            have HAO := hide hA
            obtain ⟨d0, d1⟩ := At.z2 (HD.out.d.fut (w' := wi)).at0
            have ld := (HD.out.d.fut (w' := wi)).lt
            obtain ⟨t0, t1, t2, t3, t4, t5⟩ := At.z6 (HD.out.tb.fut (w' := wi)).at0
            have lt_ := (HD.out.tb.fut (w' := wi)).lt
            have ft_ := (HD.out.tb.fut (w' := wi)).free
            obtain ⟨o0, o1, o2, o3, o4, o5, o6, o7, o8, o9, o10, o11, o12, o13, o14, o15⟩ := At.zOp (HD.out.op.fut (w' := wi)).at0
            have lo := (HD.out.op.fut (w' := wi)).lt
            rw [hA] at o2
            clear hc hnm hx hA hxb
            by_cases hx0 : x < 0
            · obtain rfl : PR = none := by rw [← HPL2.out, if_pos (Or.inl hx0)]
              have HE : Hid (R = .error 5) := HR2.out.symm
              go_wp2_with (first | (go_at_call 125; (with_reducible refine (FD.out _).mono ?_); rintro e w3 ⟨rfl, hs3⟩) | (go_at_call 122; (with_reducible refine (throw_yes _ _).mono ?_); rintro e w9 ⟨rfl, h9⟩; obtain rfl := h9.symm))
              exact ⟨rfl, by rw [HE.out]; exact ⟨Mt.step hg (fut w _), rfl⟩⟩
            · cases hcn : to_.contains x with
              | true =>
                obtain rfl : PR = none := by rw [← HPL2.out, if_pos (Or.inr hcn)]
                have HE : Hid (R = .error 5) := HR2.out.symm
                rw [hcn] at CI
                clear hcn
                go_wp2_with (first | (go_at_call 125; (with_reducible refine (FD.out _).mono ?_); rintro e w3 ⟨rfl, hs3⟩) | (go_at_call 139; (with_reducible refine (CI.out _).mono ?_); rintro e w4 ⟨rfl, hs4⟩) | (go_at_call 122; (with_reducible refine (throw_yes _ _).mono ?_); rintro e w9 ⟨rfl, h9⟩; obtain rfl := h9.symm))
                exact ⟨rfl, by rw [HE.out]; exact ⟨Mt.step hg (fut w _), rfl⟩⟩
              | false =>
                have HPL3 : Hid (placesP t.s.cols (o.cols.drop (k + 1)) (to_ ++ [x]) = PR) := by
                  show _ = _
                  rw [← HPL2.out, if_neg (by rintro (h | h); exact hx0 h; rw [hcn] at h; cases h)]
                rw [hcn] at CI
                have HX0 := hide hx0
                have hxd : decide (x < 0) = false := decide_eq_false hx0
                clear hcn
                go_wp2_with (first | (go_at_call 125; (with_reducible refine (FD.out _).mono ?_); rintro e w3 ⟨rfl, hs3⟩) | (go_at_call 139; (with_reducible refine (CI.out _).mono ?_); rintro e w4 ⟨rfl, hs4⟩) | (go_at_call 122; (with_reducible refine (throw_no _ _).mono ?_); rintro e w9 ⟨rfl, h9⟩; obtain rfl := h9.symm) | (at_builtin; have HOW := hide ((HTO.out.fut (w' := w4)).alloc (.cells #[.int .i64 x] 3)); have HNew := hide (SlAt.one w4 1 [.int .i64 x] 3); go_loud (refine wpList_append_sl rfl (.tmp 77) (.tmp 79) 68 rfl eiInt (base := w.heap.size) (xs := intCells to_) rfl HOW.out (int_fit _) (ys := [[.int .i64 x]]) rfl (by simp) HNew.out (int_fit [x]) (by rw [intCells_len, HTL.out]; show (k + 1) * 8 ≤ _; omega) (fut w (w4.alloc (.cells #[.int .i64 x] 3))).size (N := k + 1) (by rw [intCells_len, HTL.out]; rfl) ?_; intro A7 c7 w7 hq1 hq2 hown7 hgr7 hbel7; have H7 := hide hown7; have hs7 : Step w w7 := ⟨(fut w (w4.alloc (.cells #[.int .i64 x] 3))).trans hbel7⟩; clear hown7 hgr7 hbel7)))
                go_roundw
                case rel => exact ⟨k + 1, A7, c7, to_ ++ [x], by omega, by go_num, rfl, by show _ = _; rw [List.length_append, HTL.out]; rfl, fun y hy => by
                  rcases List.mem_append.1 hy with hy | hy
                  · exact HTB.out y hy
                  · rw [List.mem_singleton] at hy
                    subst hy
                    exact ⟨by have := HX0.out; omega, HXB.out⟩, HPL3.out, by rw [intCells_app]; exact H7.out, hs7⟩
                case measure => simp [intOf]; omega
          · obtain rfl : k = o.cols.length := by omega
            obtain rfl : PR = some to_ := by rw [← HPL.out, List.drop_of_length_le (Nat.le_refl _)]; rfl
            have HTS := hide (HTO.out.sl (int_fit _).len)
            obtain ⟨d0, d1⟩ := At.z2 (HD.out.d.fut (w' := wi)).at0
            have ld := (HD.out.d.fut (w' := wi)).lt
            obtain ⟨t0, t1, t2, t3, t4, t5⟩ := At.z6 (HD.out.tb.fut (w' := wi)).at0
            have lt_ := (HD.out.tb.fut (w' := wi)).lt
            have ft_ := (HD.out.tb.fut (w' := wi)).free
            obtain ⟨o0, o1, o2, o3, o4, o5, o6, o7, o8, o9, o10, o11, o12, o13, o14, o15⟩ := At.zOp (HD.out.op.fut (w' := wi)).at0
            have lo := (HD.out.op.fut (w' := wi)).lt
            go_wp2_with fail
            clear d0 d1 ld t0 t1 t2 t3 t4 t5 lt_ ft_ o0 o1 o2 o3 o4 o5 o6 o7 o8 o9 o10 o11 o12 o13 o14 o15 lo hlt HPL
            go_loopw [9, 11, 12, 13, 14, 87] (fun mv _ _ _ _ i wr => ∃ (k : Nat) (A2 : Option Addr) (c2 : Nat) (ms : List RowA), k ≤ o.rows.length ∧ i = .int .i64 k ∧ mv = .slice A2 k c2 ∧ Hid (ms.length = k) ∧ Hid (ms.map RowA.vs = ((o.rows.map RowA.vs).take k).map (putP t.s.cols.length to_)) ∧ Hid (((o.rows.map RowA.vs).take k).all (kindsP t.s.cols to_) = true) ∧ OwnR wr wi.heap.size A2 k c2 ms ∧ Step wi wr) (fun _ _ _ _ _ i _ => o.rows.length - (intOf i).toNat)
            case atStart => exact ⟨0, none, 0, [], Nat.zero_le _, rfl, rfl, rfl, rfl, rfl, ⟨Own.nil_ _ _ _ _, fun r h => by simp at h⟩, Step.of⟩
            case round =>
              obtain ⟨k, A2, c2, ms, hk, rfl, rfl, HML, HMV, HMK, hmr, hst3⟩ := hrel
              have HMR := hide hmr; clear hmr
              obtain ⟨wo, rfl⟩ : ∃ x : World, x = wr := ⟨_, rfl⟩
              have hzo := hst3.size
              by_cases hlt : k < o.rows.length
              · haveI f3 : Fut w1 wo := Fut.tr (Fut.tr f1 ⟨hst.below⟩) ⟨hst3.below⟩
                obtain ⟨b, off, hA, hb, r, hrk, hri, q0⟩ := ho.rows.row (w' := wo) f3 (k := k) hlt
                have hcr := hri.hcap; have hcrm := hri.hcapm
                have HSTR := hide hri.strs
                have HRA := hide hri.at_
                have HVK : Hid ((o.rows.map RowA.vs)[k]? = some r.vs) := by show _ = _; simp [hrk]
                have hrl : r.vs.length = o.cols.length := by
                  have := List.all_eq_true.1 HALL.out r.vs (List.mem_of_getElem? HVK.out)
                  rw [opRowB, Bool.and_eq_true, beq_iff_eq] at this
                  exact this.1
                have HRL := hide hrl
                have hkl : (k : Int) < (o.rows.length : Int) := by omega
                have hk0 : (0 : Int) ≤ (k : Int) := by omega
                have hlb : b < wo.heap.size := by have := f3.below.size; omega
                obtain ⟨OBJ, hmk, hmo⟩ := made_vals t.s.cols.length (by omega)
                have HMO := hide hmo
                obtain ⟨W2, hW2⟩ : ∃ W2, W2 = wo.alloc (.cells #[.slice r.A r.vs.length r.cap] 67) := ⟨_, rfl⟩
                have SW2 : Step wo W2 := by rw [hW2]; exact Step.of
                have HRB : Hid (Blk W2 wo.heap.size 67 [.slice r.A r.vs.length r.cap]) := by rw [hW2]; exact Blk.new wo [.slice r.A r.vs.length r.cap] 67
                have HW2 := hide hW2
                have hzW2 : W2.heap.size = wo.heap.size + 1 := by rw [hW2]; simp
                obtain ⟨gV, hgV⟩ : ∃ gV, gV = W2.heap.size := ⟨_, rfl⟩
                have hgV1 : wo.heap.size + 1 ≤ gV := by omega
                have HGV := hide hgV
                obtain ⟨W3, hW3⟩ : ∃ W3, W3 = (W2.alloc OBJ).alloc (.cells #[.slice (some ⟨gV, 0, none⟩) t.s.cols.length t.s.cols.length] 67) := ⟨_, rfl⟩
                have SW3 : Step W2 W3 := by rw [hW3]; exact Step.of
                have HOV3 : Hid (Own W3 gV 36 4 (.slice (some ⟨gV, 0, none⟩) t.s.cols.length t.s.cols.length) ((List.replicate t.s.cols.length Val.zero).map Val.cells)) := by rw [hW3, hgV]; exact (hmo W2).alloc _
                have HYR3 : Hid (Blk W3 (gV + 1) 67 [.slice (some ⟨gV, 0, none⟩) t.s.cols.length t.s.cols.length]) := by rw [hW3]; exact Blk.new_at (by rw [hgV]; simp) _ 67
                have HW3 := hide hW3
                rw [hA]
                have HAR := hide hA
                clear hW2 hW3 hrk hA hmo hrl hzW2
                go_upto_region 19 with fail
                rw [HW2.out.symm]
                clear q0
                obtain ⟨d0, d1⟩ := At.z2 (HD.out.d.fut (w' := W2)).at0
                have ld := (HD.out.d.fut (w' := W2)).lt
                obtain ⟨t0, t1, t2, t3, t4, t5⟩ := At.z6 (HD.out.tb.fut (w' := W2)).at0
                have lt_ := (HD.out.tb.fut (w' := W2)).lt
                have ft_ := (HD.out.tb.fut (w' := W2)).free
                obtain ⟨o0, o1, o2, o3, o4, o5, o6, o7, o8, o9, o10, o11, o12, o13, o14, o15⟩ := At.zOp (HD.out.op.fut (w' := W2)).at0
                have lo := (HD.out.op.fut (w' := W2)).lt
                rw [hgV] at HW3
                go_upto_region 20 with fail
                rw [HW3.out.symm]
                rw [← hgV] at HW3
                rw [← hgV]
                clear d0 d1 ld t0 t1 t2 t3 t4 t5 lt_ ft_ o0 o1 o2 o3 o4 o5 o6 o7 o8 o9 o10 o11 o12 o13 o14 o15 lo hgV
                have g0 := At.z1 (HRB.out.fut (w' := W3)).at0
                have lg := (HRB.out.fut (w' := W3)).lt
                go_wp2_with fail
                clear g0 lg hmk
                go_loopw [13, 14, 105] (fun _ _ i wr => ∃ (j : Nat) (cur : List Val), j ≤ r.vs.length ∧ i = .int .i64 j ∧ Hid (kindsTo t.s.cols to_ r.vs j = true) ∧ Hid (cur = putTo t.s.cols.length to_ r.vs j) ∧ Hid (cur.length = t.s.cols.length) ∧ Own wr gV 36 4 (.slice (some ⟨gV, 0, none⟩) t.s.cols.length t.s.cols.length) (cur.map Val.cells) ∧ Blk wr (gV + 1) 67 [.slice (some ⟨gV, 0, none⟩) t.s.cols.length t.s.cols.length] ∧ Step W2 wr) (fun _ _ i _ => r.vs.length - (intOf i).toNat)
                case atStart => exact ⟨0, List.replicate t.s.cols.length Val.zero, Nat.zero_le _, rfl, rfl, rfl, List.length_replicate .., HOV3.out, HYR3.out, SW3⟩
                case round =>
                  clear HOV3 HYR3
                  obtain ⟨j, cur, hj, rfl, HKJ, HCU_, HCL, hov, hyr, hst4⟩ := hrel
                  have HOV := hide hov; have HYR := hide hyr
                  clear hov hyr
                  obtain ⟨wv, rfl⟩ : ∃ x : World, x = wr := ⟨_, rfl⟩
                  have hzv := hst4.size
                  have hgv : gV + 1 < wv.heap.size := HYR.out.lt
                  by_cases hlj : j < r.vs.length
                  · haveI f4 : Fut w1 wv := Fut.tr (Fut.tr (Fut.tr f3 (Fut.mk' (fut wo W2))) ⟨hst4.below⟩) (Fut.self wv)
                    obtain ⟨b2, off2, hA2, hb2, hc2⟩ := HRA.out.elem (w' := wv) f4 (k := j) (by simpa using hlj)
                    obtain ⟨v, hv⟩ : ∃ v, r.vs[j]? = some v := ⟨_, List.getElem?_eq_getElem hlj⟩
                    obtain ⟨v0, v1, v2, v3⟩ := At.l4 (hc2 j v.cells (by simp [hv]))
                    obtain ⟨x, hx⟩ : ∃ x, to_[j]? = some x := ⟨_, List.getElem?_eq_getElem (by have := HTL.out; have := HRL.out; omega)⟩
                    obtain ⟨hx0, hxn⟩ := HTB.out x (List.mem_of_getElem? hx)
                    obtain ⟨xn, rfl⟩ : ∃ xn : Nat, x = (xn : Int) := ⟨x.toNat, by omega⟩
                    have hxl : xn < t.s.cols.length := by omega
                    obtain ⟨c, hc⟩ : ∃ c, t.s.cols[xn]? = some c := ⟨_, List.getElem?_eq_getElem hxl⟩
                    have HCX : Hid (cur[xn]? = some (cur[xn]'(by rw [HCL.out]; exact hxl))) := List.getElem?_eq_getElem _
                    have hjl : (j : Int) < (r.vs.length : Int) := by omega
                    have hjo : (j : Int) < (o.cols.length : Int) := by have := HRL.out; omega
                    have hj0 : (0 : Int) ≤ (j : Int) := by omega
                    have hlb2 : b2 < wv.heap.size := by have := f4.below.size; omega
                    have WV := fun w' => whole_any c.kind v w' (HSTR.out v (List.mem_of_getElem? hv))
                    have HKP : Hid (kindsTo t.s.cols to_ r.vs (j + 1) = (kindsTo t.s.cols to_ r.vs j && wholeB c.kind v)) := by
                      show _ = _
                      unfold kindsTo
                      rw [zip_take hx hv, List.all_append]
                      simp [List.getD_eq_getElem?_getD, hc]
                    have HP2 : Hid (cur.set xn v = putTo t.s.cols.length to_ r.vs (j + 1)) := by
                      show _ = _
                      unfold putTo
                      rw [zip_take hx hv, List.foldl_append, HCU_.out]
                      rfl
                    have HKB : Hid (wholeB c.kind v = false → kindsP t.s.cols to_ r.vs = false) := fun hw => kindsTo_bad hx hv (by rw [Int.toNat_natCast, List.getD_eq_getElem?_getD, hc]; exact hw)
                    obtain ⟨W5, hW5⟩ : ∃ W5, W5 = wv.alloc (.cells #[.int .i64 v.kind, .int .i64 v.i, .bool v.b, .string v.s] 36) := ⟨_, rfl⟩
                    have SW5 : Step wv W5 := by rw [hW5]; exact Step.of
                    have HXB5 : Hid (Blk W5 wv.heap.size 36 [.int .i64 v.kind, .int .i64 v.i, .bool v.b, .string v.s]) := by rw [hW5]; exact Blk.new wv _ 36
                    have HW5 := hide hW5
                    haveI f5 : Fut wi W5 := Fut.tr (Fut.tr (Fut.tr (Fut.mk' (fut wi wo)) (Fut.mk' (fut wo W2))) ⟨hst4.below⟩) (Fut.mk' SW5.below)
                    obtain ⟨bt, ot, rfl, hbt, hct⟩ := HTS.out.elem (w' := W5) f5 (k := j) (by rw [intCells_len]; have := HTL.out; have := HRL.out; omega)
                    have y_ := At.l1 (hct j [.int .i64 (xn : Int)] (by simp [intCells, hx]))
                    simp only [Nat.mul_one] at y_
                    have HYT := hide y_
                    have hbtW : bt < W5.heap.size := by have := f5.below.size; omega
                    have hbtG : bt ≠ gV := by omega
                    haveI f6 : Fut w W5 := Fut.tr (Fut.mk' (fut w wi)) f5
                    obtain ⟨bc, oc, hAc, hbc, hcc_⟩ := HSC.out.at_.elem (w' := W5) f6 (k := xn) (by simpa using hxl)
                    obtain ⟨c0, c1, c2_⟩ := At.l3 (hcc_ xn c.cells (by simp [hc]))
                    have hbcW : bc < W5.heap.size := by have := f6.below.size; omega
                    rw [hA2]
                    have HA2 := hide hA2
                    clear hc2 hv hx hc hW5 hA2 hct hcc_
                    go_upto_region 23 with fail
                    rw [HW5.out.symm]
                    clear v0 v1 v2 v3
                    obtain ⟨d0, d1⟩ := At.z2 (HD.out.d.fut (w' := W5)).at0
                    have ld := (HD.out.d.fut (w' := W5)).lt
                    obtain ⟨t0, t1, t2, t3, t4, t5⟩ := At.z6 (HD.out.tb.fut (w' := W5)).at0
                    have lt_ := (HD.out.tb.fut (w' := W5)).lt
                    have ft_ := (HD.out.tb.fut (w' := W5)).free
                    obtain ⟨o0, o1, o2, o3, o4, o5, o6, o7, o8, o9, o10, o11, o12, o13, o14, o15⟩ := At.zOp (HD.out.op.fut (w' := W5)).at0
                    have lo := (HD.out.op.fut (w' := W5)).lt
                    rw [hAc] at t1
                    have HAC := hide hAc
                    clear hAc
                    obtain ⟨x0, x1, x2, x3⟩ := At.z4 HXB5.out.at0
                    have lx := HXB5.out.lt
                    cases hw : wholeB c.kind v with
                    | false =>
                      have HE : Hid (R = .error 5) := by show _ = _; rw [← HR2.out, growC, if_pos (allBad HVK.out (HKB.out hw))]
                      rw [hw] at WV
                      have WV := hide WV
                      clear hw
                      refine wp_region_held_drew (S := (fun w' => Step W5 w' ∧ (∀ b o, b < W5.heap.size → w'.cell? ⟨b, o, none⟩ = W5.cell? ⟨b, o, none⟩))) (by kernel_rfl) (by (try dsimp only); (first | exact ⟨hS1, hS2⟩ | exact ⟨Step.of, (bcell (fut _ _)).1⟩)) (fun hHeld => ?_)
                      refine wT 0 110 (by assumption) ?_
                      refine wT 8 118 (by assumption) ?_
                      refine wT 9 119 (by assumption) ?_
                      refine wT 15 125 (by assumption) ?_
                      refine wT 1 111 (by assumption) ?_
                      refine wT 10 120 (by assumption) ?_
                      refine wT 2 112 (by assumption) ?_
                      refine wT 11 121 (by assumption) ?_
                      refine wT 3 113 (by assumption) ?_
                      refine wT 4 114 (by assumption) ?_
                      refine wT 5 115 (by assumption) ?_
                      refine wT 6 116 (by assumption) ?_
                      refine wT 7 117 (by assumption) ?_
                      refine wT 12 122 (by assumption) ?_
                      refine wT 13 123 (by assumption) ?_
                      refine wT 14 124 (by assumption) ?_
                      refine wpAnyH_ready (rs := [16]) (by kernel_rfl) (by simp) ?_
                      refine AllReadyH.cons (o := ⟨some 126, _, _, _, _, _⟩) rfl (fun K hK => ?_) AllReadyH.nil
                      obtain ⟨hS1, hS2⟩ := hHeld
                      go_simp
                      (go_at_call 56; (with_reducible refine (WV.out _).mono ?_); rintro e w6 ⟨rfl, hs6⟩)
                      refine hK.out _ _ (by (try dsimp only); (first | exact ⟨hS1, hS2⟩ | exact ⟨Step.of, (bcell (fut _ _)).1⟩)) (fun hHeld => ?_)
                      clear hK K
                      (try simp only [Act.put, List.setIfInBounds_toArray, List.set_cons_zero, List.set_cons_succ])
                      refine wT 17 127 (by assumption) ?_
                      refine wpAnyH_ready (rs := [18]) (by kernel_rfl) (by simp) ?_
                      refine AllReadyH.cons (o := ⟨some 128, _, _, _, _, _⟩) rfl (fun K hK => ?_) AllReadyH.nil
                      obtain ⟨hS1, hS2⟩ := hHeld
                      go_simp
                      (go_at_call 122; (with_reducible refine (throw_yes _ _).mono ?_); rintro e w9 ⟨rfl, h9⟩; obtain rfl := h9.symm)
                      exact ⟨rfl, by rw [HE.out]; exact ⟨Mt.step hg (fut w _), rfl⟩⟩
                    | true =>
                      have HK2 : Hid (kindsTo t.s.cols to_ r.vs (j + 1) = true) := by show _ = _; rw [HKP.out, HKJ.out, hw]; rfl
                      rw [hw] at WV
                      have WV := hide WV
                      clear hw
                      refine wp_region_held_drew (S := (fun w' => Step W5 w' ∧ (∀ b o, b < W5.heap.size → w'.cell? ⟨b, o, none⟩ = W5.cell? ⟨b, o, none⟩))) (by kernel_rfl) (by (try dsimp only); (first | exact ⟨hS1, hS2⟩ | exact ⟨Step.of, (bcell (fut _ _)).1⟩)) (fun hHeld => ?_)
                      refine wT 0 110 (by assumption) ?_
                      refine wT 8 118 (by assumption) ?_
                      refine wT 9 119 (by assumption) ?_
                      refine wT 15 125 (by assumption) ?_
                      refine wT 1 111 (by assumption) ?_
                      refine wT 10 120 (by assumption) ?_
                      refine wT 2 112 (by assumption) ?_
                      refine wT 11 121 (by assumption) ?_
                      refine wT 3 113 (by assumption) ?_
                      refine wT 4 114 (by assumption) ?_
                      refine wT 5 115 (by assumption) ?_
                      refine wT 6 116 (by assumption) ?_
                      refine wT 7 117 (by assumption) ?_
                      refine wT 12 122 (by assumption) ?_
                      refine wT 13 123 (by assumption) ?_
                      refine wT 14 124 (by assumption) ?_
                      refine wpAnyH_ready (rs := [16]) (by kernel_rfl) (by simp) ?_
                      refine AllReadyH.cons (o := ⟨some 126, _, _, _, _, _⟩) rfl (fun K hK => ?_) AllReadyH.nil
                      obtain ⟨hS1, hS2⟩ := hHeld
                      go_simp
                      (go_at_call 56; (with_reducible refine (WV.out _).mono ?_); rintro e w6 ⟨rfl, hs6⟩)
                      refine hK.out _ _ (by (try dsimp only); (first | exact ⟨hS1, hS2⟩ | exact ⟨Step.of, (bcell (fut _ _)).1⟩)) (fun hHeld => ?_)
                      clear hK K
                      (try simp only [Act.put, List.setIfInBounds_toArray, List.set_cons_zero, List.set_cons_succ])
                      refine wT 17 127 (by assumption) ?_
                      refine wpAnyH_ready (rs := [18]) (by kernel_rfl) (by simp) ?_
                      refine AllReadyH.cons (o := ⟨some 128, _, _, _, _, _⟩) rfl (fun K hK => ?_) AllReadyH.nil
                      obtain ⟨hS1, hS2⟩ := hHeld
                      go_simp
                      (go_at_call 122; (with_reducible refine (throw_no _ _).mono ?_); rintro e w9 ⟨rfl, h9⟩; obtain rfl := h9.symm)
                      refine hK.out _ _ (by (try dsimp only); (first | exact ⟨hS1, hS2⟩ | exact ⟨Step.of, (bcell (fut _ _)).1⟩)) (fun hHeld => ?_)
                      clear hK K
                      (try simp only [Act.put, List.setIfInBounds_toArray, List.set_cons_zero, List.set_cons_succ])
                      refine wpAnyH_done (by kernel_rfl) ?_ _
                      clear d0 d1 ld t0 t1 t2 t3 t4 t5 lt_ ft_ o0 o1 o2 o3 o4 o5 o6 o7 o8 o9 o10 o11 o12 o13 o14 o15 lo c0 c1 c2_ x0 x1 x2 x3 lx y_
                      obtain ⟨wq, hwq⟩ : ∃ y : World, y = w6 := ⟨_, rfl⟩
                      rw [← hwq] at hs6 ⊢
                      clear hwq
                      go_upto_region 24 with fail
                      have g0 := At.z1 (HYR.out.fut (w' := wq)).at0
                      have lg := (HYR.out.fut (w' := wq)).lt
                      obtain ⟨x0, x1, x2, x3⟩ := At.z4 (HXB5.out.fut (w' := wq)).at0
                      have lx := (HXB5.out.fut (w' := wq)).lt
                      haveI f7 : Fut wi wq := Fut.tr f5 (Fut.mk' (fut W5 wq))
                      have y_ : wq.cell? ⟨bt, ot + j, none⟩ = some (.int .i64 (xn : Int)) := by rw [(bcell (fut W5 wq)).1 bt _ hbtW]; exact HYT.out
                      have hbtQ : bt < wq.heap.size := by have := (fut W5 wq).size; omega
                      have hne1 : wv.heap.size ≠ gV := by omega
                      have hgq : gV < wq.heap.size := by omega
                      obtain ⟨gq, hgq_, _, _, hat_, hfz, _⟩ := (HOV.out.fut (w' := wq)).putV HCX.out
                      injection hgq_ with hgq_
                      injection hgq_ with hgq_
                      subst hgq_
                      obtain ⟨k0, k1, k2, k3⟩ := At.l4 hat_
                      have HB24 : Hid (Below w.heap.size w (((((wq.setCell ⟨gV, xn * 4, none⟩ (.int .i64 v.kind)).setCell ⟨gV, xn * 4 + 1, none⟩ (.int .i64 v.i)).setCell ⟨gV, xn * 4 + 2, none⟩ (.bool v.b)).setCell ⟨gV, xn * 4 + 3, none⟩ (.string v.s)).drew)) := (set4_belowD (fut w wq) (show w.heap.size ≤ gV by omega) (xn * 4) v).drew
                      have HC24 : Hid (∀ (b o : Nat), b ≠ gV → (((((wq.setCell ⟨gV, xn * 4, none⟩ (.int .i64 v.kind)).setCell ⟨gV, xn * 4 + 1, none⟩ (.int .i64 v.i)).setCell ⟨gV, xn * 4 + 2, none⟩ (.bool v.b)).setCell ⟨gV, xn * 4 + 3, none⟩ (.string v.s)).drew).cell? ⟨b, o, none⟩ = wq.cell? ⟨b, o, none⟩) := fun b o hn => set4_cellD wq hn.symm (xn * 4) v o
                      have HCU2 : Hid (Own (((((wq.setCell ⟨gV, xn * 4, none⟩ (.int .i64 v.kind)).setCell ⟨gV, xn * 4 + 1, none⟩ (.int .i64 v.i)).setCell ⟨gV, xn * 4 + 2, none⟩ (.bool v.b)).setCell ⟨gV, xn * 4 + 3, none⟩ (.string v.s)).drew) gV 36 4 (.slice (some ⟨gV, 0, none⟩) t.s.cols.length t.s.cols.length) ((cur.set xn v).map Val.cells)) := by
                        obtain ⟨gq, hgq_, _, _, _, _, hput⟩ := (HOV.out.fut (w' := wq)).putV HCX.out
                        injection hgq_ with hgq_
                        injection hgq_ with hgq_
                        subst hgq_
                        exact (hput v).fut (w' := (set4 wq gV (xn * 4) v).drew)
                      have HYR2 : Hid (Blk (((((wq.setCell ⟨gV, xn * 4, none⟩ (.int .i64 v.kind)).setCell ⟨gV, xn * 4 + 1, none⟩ (.int .i64 v.i)).setCell ⟨gV, xn * 4 + 2, none⟩ (.bool v.b)).setCell ⟨gV, xn * 4 + 3, none⟩ (.string v.s)).drew) (gV + 1) 67 [.slice (some ⟨gV, 0, none⟩) t.s.cols.length t.s.cols.length]) := ((HYR.out.fut (w' := wq)).grown (set4_grown wq gV (xn * 4) v) (by intro hh; injection hh with hh; omega)).drew
                      have HST2 : Hid (Step W2 (((((wq.setCell ⟨gV, xn * 4, none⟩ (.int .i64 v.kind)).setCell ⟨gV, xn * 4 + 1, none⟩ (.int .i64 v.i)).setCell ⟨gV, xn * 4 + 2, none⟩ (.bool v.b)).setCell ⟨gV, xn * 4 + 3, none⟩ (.string v.s)).drew)) := ⟨(set4_belowD (fut W2 wq) (Nat.le_of_eq HGV.out.symm) (xn * 4) v).drew⟩
                      refine wp_region_held_drew (S := (fun w' => Step w w' ∧ (∀ b o, b < wq.heap.size → b ≠ gV → w'.cell? ⟨b, o, none⟩ = wq.cell? ⟨b, o, none⟩))) (by kernel_rfl) (by (try dsimp only); (first | exact ⟨hS1, hS2⟩ | exact ⟨Step.of, fun b o h _ => (fut wq _).cell (p := ⟨b, o, none⟩) h⟩)) (fun hHeld => ?_)
                      refine wT 0 129 (by assumption) ?_
                      refine wT 2 131 (by assumption) ?_
                      refine wT 3 132 (by assumption) ?_
                      refine wT 6 135 (by assumption) ?_
                      refine wT 1 130 (by assumption) ?_
                      refine wT 4 133 (by assumption) ?_
                      refine wT 5 134 (by assumption) ?_
                      refine wT 7 136 (by assumption) ?_
                      refine wpAnyH_ready (rs := [8]) (by kernel_rfl) (by simp) ?_
                      refine AllReadyH.cons (o := ⟨none, _, _, _, _, _⟩) rfl (fun K hK => ?_) AllReadyH.nil
                      go_simp
                      refine hK.out _ _ (by (try dsimp only); (with_reducible exact ⟨⟨HB24.out⟩, fun b o h hn => HC24.out b o hn⟩)) (fun hHeld => ?_)
                      clear hK K
                      (try simp only [Act.put, List.setIfInBounds_toArray, List.set_cons_zero, List.set_cons_succ])
                      refine wpAnyH_done (by kernel_rfl) ?_ _
                      obtain ⟨Y, hY⟩ : ∃ y : World, y = ((((wq.setCell ⟨gV, xn * 4, none⟩ (.int .i64 v.kind)).setCell ⟨gV, xn * 4 + 1, none⟩ (.int .i64 v.i)).setCell ⟨gV, xn * 4 + 2, none⟩ (.bool v.b)).setCell ⟨gV, xn * 4 + 3, none⟩ (.string v.s)).drew := ⟨_, rfl⟩
                      rw [← hY] at HCU2 HYR2 HST2
                      rw [← hY]
                      clear hY HB24 HC24
                      have hsY : Step W2 Y := HST2.out
                      clear g0 lg x0 x1 x2 x3 lx y_ hbtQ hne1 hgq k0 k1 k2 k3 hfz hat_
                      go_wp2_with fail
                      go_roundw
                      case rel => exact ⟨j + 1, cur.set xn v, by omega, by go_num, HK2.out, by show _ = _; rw [HP2.out], by show _ = _; rw [List.length_set]; exact HCL.out, HCU2.out, HYR2.out, hsY⟩
                      case measure => simp [intOf]; omega
                  · obtain rfl : j = r.vs.length := by omega
                    have hzl : (to_.zip r.vs).length = r.vs.length := by rw [List.length_zip]; have := HTL.out; have := HRL.out; omega
                    have HKA : Hid (kindsP t.s.cols to_ r.vs = true) := by show _ = _; rw [← HKJ.out, kindsTo, List.take_of_length_le (by omega), kindsP]
                    have HCA : Hid (cur = putP t.s.cols.length to_ r.vs) := by show _ = _; rw [HCU_.out, putTo, List.take_of_length_le (by omega), putP]
                    have HMK2 := hide (allTake HVK.out HMK.out HKA.out)
                    obtain ⟨wz, hwz⟩ : ∃ y : World, y = wv := ⟨_, rfl⟩
                    rw [← hwz] at HOV HYR hst4 hzv hgv
                    rw [← hwz]
                    clear hwz
                    have g0 := At.z1 HYR.out.at0
                    have lg := HYR.out.lt
                    have hGW : wi.heap.size ≤ gV := by omega
                    go_wp2_with (at_builtin; have HOW := hide ((HMR.out.out.fut (w' := wz)).alloc (.cells #[.slice (some ⟨gV, 0, none⟩) t.s.cols.length t.s.cols.length] 67)); have HNew := hide (SlAt.one wz 1 [.slice (some ⟨gV, 0, none⟩) t.s.cols.length t.s.cols.length] 67); go_loud (refine wpList_append_sl rfl (.tmp 138) (.tmp 140) 28 rfl eiRow (base := wi.heap.size) (xs := ms.map RowA.cells) rfl HOW.out (rows_fit _) (ys := [[.slice (some ⟨gV, 0, none⟩) t.s.cols.length t.s.cols.length]]) rfl (by simp) HNew.out (slice_fit _ _ _) (by rw [List.length_map, HML.out]; show (k + 1) * 24 ≤ _; omega) (fut wi (wz.alloc (.cells #[.slice (some ⟨gV, 0, none⟩) t.s.cols.length t.s.cols.length] 67))).size (N := k + 1) (by rw [List.length_map, HML.out]; rfl) ?_; intro A7 c7 w7 hq1 hq2 hown7 hgr7 hbel7; have HR7 := hide (OwnR.app (r := ⟨some ⟨gV, 0, none⟩, t.s.cols.length, cur⟩) ((HMR.out.fut (w' := wz)).fut (w' := wz.alloc (.cells #[.slice (some ⟨gV, 0, none⟩) t.s.cols.length t.s.cols.length] 67))) (by show Own _ _ _ _ (.slice _ cur.length _) _; rw [HCL.out]; exact (HOV.out.alloc _).more hGW) (by show Own _ _ _ _ _ (_ ++ [[.slice _ cur.length _]]); rw [HCL.out]; exact hown7) hgr7); have hs7 : Step wi w7 := ⟨(fut wi (wz.alloc (.cells #[.slice (some ⟨gV, 0, none⟩) t.s.cols.length t.s.cols.length] 67))).trans hbel7⟩; clear hown7 hgr7 hbel7))
                    go_roundw
                    case rel => exact ⟨k + 1, A7, c7, ms ++ [⟨some ⟨gV, 0, none⟩, t.s.cols.length, cur⟩], by omega, by go_num, rfl, by show _ = _; rw [List.length_append, HML.out]; rfl, by
                      show _ = _
                      rw [List.map_append, HMV.out, List.take_add_one, HVK.out, HCA.out]
                      simp, HMK2.out, HR7.out, hs7⟩
                    case measure => simp [intOf]; omega
              · obtain rfl : k = o.rows.length := by omega
                have HMA : Hid ((o.rows.map RowA.vs).all (kindsP t.s.cols to_) = true) := by
                  show _ = _
                  have := HMK.out
                  rwa [List.take_of_length_le (by simp)] at this
                have HMV2 : Hid (ms.map RowA.vs = (o.rows.map RowA.vs).map (putP t.s.cols.length to_)) := by
                  show _ = _
                  rw [HMV.out, List.take_of_length_le (by simp)]
                have HR3 : Hid ((if 4096 < t.rs.length + o.rows.length then .error 7 else .ok ⟨t.s, t.sid, t.fs, t.rs.map RowA.vs ++ (o.rows.map RowA.vs).map (putP t.s.cols.length to_)⟩) = R) := by
                  show _ = _
                  rw [← HR2.out]
                  show _ = (if _ = false then _ else _)
                  rw [HMA.out, if_neg (show ¬ (true = false) by simp)]
                  simp only [List.length_map]
                obtain ⟨d0, d1⟩ := At.z2 (HD.out.d.fut (w' := wo)).at0
                have ld := (HD.out.d.fut (w' := wo)).lt
                obtain ⟨t0, t1, t2, t3, t4, t5⟩ := At.z6 (HD.out.tb.fut (w' := wo)).at0
                have lt_ := (HD.out.tb.fut (w' := wo)).lt
                have ft_ := (HD.out.tb.fut (w' := wo)).free
                obtain ⟨o0, o1, o2, o3, o4, o5, o6, o7, o8, o9, o10, o11, o12, o13, o14, o15⟩ := At.zOp (HD.out.op.fut (w' := wo)).at0
                have lo := (HD.out.op.fut (w' := wo)).lt
                by_cases h7 : 4096 < t.rs.length + o.rows.length
                · have HE : Hid (R = .error 7) := by show _ = _; rw [← HR3.out, if_pos h7]
                  have h7i : (4096 : Int) < (t.rs.length : Int) + (o.rows.length : Int) := by omega
                  clear h7
                  go_wp2_with (go_at_call 122; (with_reducible refine (throw_yes _ _).mono ?_); rintro e w9 ⟨rfl, h9⟩; obtain rfl := h9.symm)
                  exact ⟨rfl, by rw [HE.out]; exact ⟨Mt.step hg (fut w _), rfl⟩⟩
                · have HE : Hid (R = .ok ⟨t.s, t.sid, t.fs, t.rs.map RowA.vs ++ (o.rows.map RowA.vs).map (putP t.s.cols.length to_)⟩) := by show _ = _; rw [← HR3.out, if_neg h7]
                  have h7i : ¬ (4096 : Int) < (t.rs.length : Int) + (o.rows.length : Int) := by omega
                  have HDZ : Hid (Doer wo g D T O t o) := HD.out.fut
                  have HDR := hide HDZ.out.own.rows.rows.out
                  have HML2 := hide (HMR.out.out.sl (rows_fit _).len)
                  have hgz : g ≤ wo.heap.size := by omega
                  have HZW : Hid (g ≤ wi.heap.size ∧ ms.length = o.rows.length) := ⟨by omega, HML.out⟩
                  have hnl : t.rs.length + o.rows.length = (t.rs.length + o.rows.length) := rfl
                  clear h7
                  go_upto_region 29 with (go_at_call 122; (with_reducible refine (throw_no _ _).mono ?_); rintro e w9 ⟨rfl, h9⟩; obtain rfl := h9.symm)
                  refine wp_region_held_drew (S := (fun w' : World => True ∧ True)) (by kernel_rfl) (by (try dsimp only); (exact ⟨trivial, trivial⟩)) (fun hHeld => ?_)
                  refine wT 0 156 (by assumption) ?_
                  refine wT 4 160 (by assumption) ?_
                  refine wT 11 167 (by assumption) ?_
                  refine wT 1 157 (by assumption) ?_
                  refine wT 5 161 (by assumption) ?_
                  refine wT 2 158 (by assumption) ?_
                  refine wT 6 162 (by assumption) ?_
                  refine wpAnyH_ready (rs := [3, 7]) (by kernel_rfl) (by simp) ?_
                  refine AllReadyH.cons (o := ⟨some 159, _, _, _, _, _⟩) rfl (fun K hK => ?_) (AllReadyH.cons (o := ⟨some 163, _, _, _, _, _⟩) rfl (fun K hK => ?_) AllReadyH.nil)
                  · go_simp
                    refine hK.out _ _ (by (try dsimp only); (exact ⟨trivial, trivial⟩)) (fun hHeld => ?_)
                    clear hK K
                    (try simp only [Act.put, List.setIfInBounds_toArray, List.set_cons_zero, List.set_cons_succ])
                    refine wpAnyH_ready (rs := [7]) (by kernel_rfl) (by simp) ?_
                    refine AllReadyH.cons (o := ⟨some 163, _, _, _, _, _⟩) rfl (fun K hK => ?_) AllReadyH.nil
                    go_simp
                    refine hK.out _ _ (by (try dsimp only); (exact ⟨trivial, trivial⟩)) (fun hHeld => ?_)
                    clear hK K
                    (try simp only [Act.put, List.setIfInBounds_toArray, List.set_cons_zero, List.set_cons_succ])
                    refine wT 8 164 (by assumption) ?_
                    refine wT 9 165 (by assumption) ?_
                    refine wpAnyH_ready (rs := [10]) (by kernel_rfl) (by simp) ?_
                    refine AllReadyH.cons (o := ⟨some 166, _, _, _, _, _⟩) rfl (fun K hK => ?_) AllReadyH.nil
                    go_simp
                    refine hK.out _ _ (by (try dsimp only); (exact ⟨trivial, trivial⟩)) (fun hHeld => ?_)
                    clear hK K
                    (try simp only [Act.put, List.setIfInBounds_toArray, List.set_cons_zero, List.set_cons_succ])
                    refine wpAnyH_ready (rs := [12]) (by kernel_rfl) (by simp) ?_
                    refine AllReadyH.cons (o := ⟨some 168, _, _, _, _, _⟩) rfl (fun K hK => ?_) AllReadyH.nil
                    (refine step_append_sl rfl (.tmp 166) (.tmp 167) 28 rfl eiRow (base := g) (xs := t.rs.map RowA.cells) rfl HDR.out.fut (rows_fit _) (ys := ms.map RowA.cells) rfl (by rw [List.length_map, HML.out]) HML2.out.fut (rows_fit _) (by rw [List.length_map, List.length_map, HML.out]; omega) hgz (N := t.rs.length + o.rows.length) (by rw [List.length_map, List.length_map, HML.out]) ?_; intro A7 c7 w7 hq1 hq2 hown7 hgr7 hbel7; have HFIN := hide (DoneAdd HDZ.out.fut HMR.out.fut hown7 hgr7 hgz HZW.out); clear d0 d1 ld t0 t1 t2 t3 t4 t5 lt_ ft_ o0 o1 o2 o3 o4 o5 o6 o7 o8 o9 o10 o11 o12 o13 o14 o15 lo; obtain ⟨d0, d1⟩ := At.z2 HFIN.out.d.at0; have ld := HFIN.out.d.lt; obtain ⟨t0, t1, t2, t3, t4, t5⟩ := At.z6 HFIN.out.tb.at0; have lt_ := HFIN.out.tb.lt; have ft_ := HFIN.out.tb.free; clear hown7 hgr7 hbel7)
                    refine hK.out _ _ (by (try dsimp only); (exact ⟨trivial, trivial⟩)) (fun hHeld => ?_)
                    clear hK K
                    (try simp only [Act.put, List.setIfInBounds_toArray, List.set_cons_zero, List.set_cons_succ])
                    refine wT 13 169 (by assumption) ?_
                    refine wT 14 170 (by assumption) ?_
                    refine wpAnyH_ready (rs := [15]) (by kernel_rfl) (by simp) ?_
                    refine AllReadyH.cons (o := ⟨none, _, _, _, _, _⟩) rfl (fun K hK => ?_) AllReadyH.nil
                    go_simp
                    refine hK.out _ _ (by (try dsimp only); (exact ⟨trivial, trivial⟩)) (fun hHeld => ?_)
                    clear hK K
                    (try simp only [Act.put, List.setIfInBounds_toArray, List.set_cons_zero, List.set_cons_succ])
                    refine wpAnyH_done (by kernel_rfl) ?_ _
                    go_wp2_with fail
                    go_end0
                    rw [HE.out]
                    exact HFIN.out.run HDZ.out.gT (Mt.step hg (fut w _)) (by rw [List.map_append, HMV2.out]) rfl (by rw [List.length_append, HML.out]) rfl
                  · go_simp
                    refine hK.out _ _ (by (try dsimp only); (exact ⟨trivial, trivial⟩)) (fun hHeld => ?_)
                    clear hK K
                    (try simp only [Act.put, List.setIfInBounds_toArray, List.set_cons_zero, List.set_cons_succ])
                    refine wT 8 164 (by assumption) ?_
                    refine wT 9 165 (by assumption) ?_
                    refine wpAnyH_ready (rs := [3, 10]) (by kernel_rfl) (by simp) ?_
                    refine AllReadyH.cons (o := ⟨some 159, _, _, _, _, _⟩) rfl (fun K hK => ?_) (AllReadyH.cons (o := ⟨some 166, _, _, _, _, _⟩) rfl (fun K hK => ?_) AllReadyH.nil)
                    · go_simp
                      refine hK.out _ _ (by (try dsimp only); (exact ⟨trivial, trivial⟩)) (fun hHeld => ?_)
                      clear hK K
                      (try simp only [Act.put, List.setIfInBounds_toArray, List.set_cons_zero, List.set_cons_succ])
                      refine wpAnyH_ready (rs := [10]) (by kernel_rfl) (by simp) ?_
                      refine AllReadyH.cons (o := ⟨some 166, _, _, _, _, _⟩) rfl (fun K hK => ?_) AllReadyH.nil
                      go_simp
                      refine hK.out _ _ (by (try dsimp only); (exact ⟨trivial, trivial⟩)) (fun hHeld => ?_)
                      clear hK K
                      (try simp only [Act.put, List.setIfInBounds_toArray, List.set_cons_zero, List.set_cons_succ])
                      refine wpAnyH_ready (rs := [12]) (by kernel_rfl) (by simp) ?_
                      refine AllReadyH.cons (o := ⟨some 168, _, _, _, _, _⟩) rfl (fun K hK => ?_) AllReadyH.nil
                      (refine step_append_sl rfl (.tmp 166) (.tmp 167) 28 rfl eiRow (base := g) (xs := t.rs.map RowA.cells) rfl HDR.out.fut (rows_fit _) (ys := ms.map RowA.cells) rfl (by rw [List.length_map, HML.out]) HML2.out.fut (rows_fit _) (by rw [List.length_map, List.length_map, HML.out]; omega) hgz (N := t.rs.length + o.rows.length) (by rw [List.length_map, List.length_map, HML.out]) ?_; intro A7 c7 w7 hq1 hq2 hown7 hgr7 hbel7; have HFIN := hide (DoneAdd HDZ.out.fut HMR.out.fut hown7 hgr7 hgz HZW.out); clear d0 d1 ld t0 t1 t2 t3 t4 t5 lt_ ft_ o0 o1 o2 o3 o4 o5 o6 o7 o8 o9 o10 o11 o12 o13 o14 o15 lo; obtain ⟨d0, d1⟩ := At.z2 HFIN.out.d.at0; have ld := HFIN.out.d.lt; obtain ⟨t0, t1, t2, t3, t4, t5⟩ := At.z6 HFIN.out.tb.at0; have lt_ := HFIN.out.tb.lt; have ft_ := HFIN.out.tb.free; clear hown7 hgr7 hbel7)
                      refine hK.out _ _ (by (try dsimp only); (exact ⟨trivial, trivial⟩)) (fun hHeld => ?_)
                      clear hK K
                      (try simp only [Act.put, List.setIfInBounds_toArray, List.set_cons_zero, List.set_cons_succ])
                      refine wT 13 169 (by assumption) ?_
                      refine wT 14 170 (by assumption) ?_
                      refine wpAnyH_ready (rs := [15]) (by kernel_rfl) (by simp) ?_
                      refine AllReadyH.cons (o := ⟨none, _, _, _, _, _⟩) rfl (fun K hK => ?_) AllReadyH.nil
                      go_simp
                      refine hK.out _ _ (by (try dsimp only); (exact ⟨trivial, trivial⟩)) (fun hHeld => ?_)
                      clear hK K
                      (try simp only [Act.put, List.setIfInBounds_toArray, List.set_cons_zero, List.set_cons_succ])
                      refine wpAnyH_done (by kernel_rfl) ?_ _
                      go_wp2_with fail
                      go_end0
                      rw [HE.out]
                      exact HFIN.out.run HDZ.out.gT (Mt.step hg (fut w _)) (by rw [List.map_append, HMV2.out]) rfl (by rw [List.length_append, HML.out]) rfl
                    · go_simp
                      refine hK.out _ _ (by (try dsimp only); (exact ⟨trivial, trivial⟩)) (fun hHeld => ?_)
                      clear hK K
                      (try simp only [Act.put, List.setIfInBounds_toArray, List.set_cons_zero, List.set_cons_succ])
                      refine wpAnyH_ready (rs := [3, 12]) (by kernel_rfl) (by simp) ?_
                      refine AllReadyH.cons (o := ⟨some 159, _, _, _, _, _⟩) rfl (fun K hK => ?_) (AllReadyH.cons (o := ⟨some 168, _, _, _, _, _⟩) rfl (fun K hK => ?_) AllReadyH.nil)
                      · go_simp
                        refine hK.out _ _ (by (try dsimp only); (exact ⟨trivial, trivial⟩)) (fun hHeld => ?_)
                        clear hK K
                        (try simp only [Act.put, List.setIfInBounds_toArray, List.set_cons_zero, List.set_cons_succ])
                        refine wpAnyH_ready (rs := [12]) (by kernel_rfl) (by simp) ?_
                        refine AllReadyH.cons (o := ⟨some 168, _, _, _, _, _⟩) rfl (fun K hK => ?_) AllReadyH.nil
                        (refine step_append_sl rfl (.tmp 166) (.tmp 167) 28 rfl eiRow (base := g) (xs := t.rs.map RowA.cells) rfl HDR.out.fut (rows_fit _) (ys := ms.map RowA.cells) rfl (by rw [List.length_map, HML.out]) HML2.out.fut (rows_fit _) (by rw [List.length_map, List.length_map, HML.out]; omega) hgz (N := t.rs.length + o.rows.length) (by rw [List.length_map, List.length_map, HML.out]) ?_; intro A7 c7 w7 hq1 hq2 hown7 hgr7 hbel7; have HFIN := hide (DoneAdd HDZ.out.fut HMR.out.fut hown7 hgr7 hgz HZW.out); clear d0 d1 ld t0 t1 t2 t3 t4 t5 lt_ ft_ o0 o1 o2 o3 o4 o5 o6 o7 o8 o9 o10 o11 o12 o13 o14 o15 lo; obtain ⟨d0, d1⟩ := At.z2 HFIN.out.d.at0; have ld := HFIN.out.d.lt; obtain ⟨t0, t1, t2, t3, t4, t5⟩ := At.z6 HFIN.out.tb.at0; have lt_ := HFIN.out.tb.lt; have ft_ := HFIN.out.tb.free; clear hown7 hgr7 hbel7)
                        refine hK.out _ _ (by (try dsimp only); (exact ⟨trivial, trivial⟩)) (fun hHeld => ?_)
                        clear hK K
                        (try simp only [Act.put, List.setIfInBounds_toArray, List.set_cons_zero, List.set_cons_succ])
                        refine wT 13 169 (by assumption) ?_
                        refine wT 14 170 (by assumption) ?_
                        refine wpAnyH_ready (rs := [15]) (by kernel_rfl) (by simp) ?_
                        refine AllReadyH.cons (o := ⟨none, _, _, _, _, _⟩) rfl (fun K hK => ?_) AllReadyH.nil
                        go_simp
                        refine hK.out _ _ (by (try dsimp only); (exact ⟨trivial, trivial⟩)) (fun hHeld => ?_)
                        clear hK K
                        (try simp only [Act.put, List.setIfInBounds_toArray, List.set_cons_zero, List.set_cons_succ])
                        refine wpAnyH_done (by kernel_rfl) ?_ _
                        go_wp2_with fail
                        go_end0
                        rw [HE.out]
                        exact HFIN.out.run HDZ.out.gT (Mt.step hg (fut w _)) (by rw [List.map_append, HMV2.out]) rfl (by rw [List.length_append, HML.out]) rfl
                      · (refine step_append_sl rfl (.tmp 166) (.tmp 167) 28 rfl eiRow (base := g) (xs := t.rs.map RowA.cells) rfl HDR.out.fut (rows_fit _) (ys := ms.map RowA.cells) rfl (by rw [List.length_map, HML.out]) HML2.out.fut (rows_fit _) (by rw [List.length_map, List.length_map, HML.out]; omega) hgz (N := t.rs.length + o.rows.length) (by rw [List.length_map, List.length_map, HML.out]) ?_; intro A7 c7 w7 hq1 hq2 hown7 hgr7 hbel7; have HFIN := hide (DoneAdd HDZ.out.fut HMR.out.fut hown7 hgr7 hgz HZW.out); clear d0 d1 ld t0 t1 t2 t3 t4 t5 lt_ ft_ o0 o1 o2 o3 o4 o5 o6 o7 o8 o9 o10 o11 o12 o13 o14 o15 lo; obtain ⟨d0, d1⟩ := At.z2 HFIN.out.d.at0; have ld := HFIN.out.d.lt; obtain ⟨t0, t1, t2, t3, t4, t5⟩ := At.z6 HFIN.out.tb.at0; have lt_ := HFIN.out.tb.lt; have ft_ := HFIN.out.tb.free; clear hown7 hgr7 hbel7)
                        refine hK.out _ _ (by (try dsimp only); (exact ⟨trivial, trivial⟩)) (fun hHeld => ?_)
                        clear hK K
                        (try simp only [Act.put, List.setIfInBounds_toArray, List.set_cons_zero, List.set_cons_succ])
                        refine wpAnyH_ready (rs := [3]) (by kernel_rfl) (by simp) ?_
                        refine AllReadyH.cons (o := ⟨some 159, _, _, _, _, _⟩) rfl (fun K hK => ?_) AllReadyH.nil
                        go_simp
                        refine hK.out _ _ (by (try dsimp only); (exact ⟨trivial, trivial⟩)) (fun hHeld => ?_)
                        clear hK K
                        (try simp only [Act.put, List.setIfInBounds_toArray, List.set_cons_zero, List.set_cons_succ])
                        refine wT 13 169 (by assumption) ?_
                        refine wT 14 170 (by assumption) ?_
                        refine wpAnyH_ready (rs := [15]) (by kernel_rfl) (by simp) ?_
                        refine AllReadyH.cons (o := ⟨none, _, _, _, _, _⟩) rfl (fun K hK => ?_) AllReadyH.nil
                        go_simp
                        refine hK.out _ _ (by (try dsimp only); (exact ⟨trivial, trivial⟩)) (fun hHeld => ?_)
                        clear hK K
                        (try simp only [Act.put, List.setIfInBounds_toArray, List.set_cons_zero, List.set_cons_succ])
                        refine wpAnyH_done (by kernel_rfl) ?_ _
                        go_wp2_with fail
                        go_end0
                        rw [HE.out]
                        exact HFIN.out.run HDZ.out.gT (Mt.step hg (fut w _)) (by rw [List.map_append, HMV2.out]) rfl (by rw [List.length_append, HML.out]) rfl
end Go.Proofs.YtnphokhehacfnaaGreatDoor

