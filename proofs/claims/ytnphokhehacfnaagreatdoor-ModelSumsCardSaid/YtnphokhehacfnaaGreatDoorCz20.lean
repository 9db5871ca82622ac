/-
  Texts put together: Xo.
-/
import Derived.Test.YtnphokhehacfnaaGreatDoorCz01
import Derived.Test.YtnphokhehacfnaaGreatDoorCz19
namespace Go.Proofs.YtnphokhehacfnaaGreatDoor
open Go.RowKit

def ReadNR (U : Nat) (x0 x3 x4 x5 x6 : Value) (w : World) (r : Except Int (List ByteArray × List (List Val))) (e : Ending) (w' : World) : Prop :=
  match r with
  | .error c => e = .panicked [{ v := faultM c, recovered := false }] ∧ Step w w'
  | .ok p => e = .returned (.tuple #[]) ∧ w.grownBy w' (some U) ∧ ∃ (An : Option Addr) (cn : Nat) (os : List RowA) (Ar : Option Addr) (cr : Nat), RowsOut w' w.heap.size p.1 p.2 An cn os Ar cr ∧ Blk w' U 59 [x0, .slice An p.1.length cn, .slice Ar os.length cr, x3, x4, x5, x6]
theorem Own.grownE {w w' : World} {base U : Nat} {e e' : TypeId} {size : Nat} {v : Value} {l : List (List Value)} {cs : List Value} (ho : Own w base e' size v l) (hu : Blk w U e cs) (hg : w.grownBy w' (some U)) (hne : e' ≠ e) : Own w' base e' size v l := ho.grown_other hg fun q hq hh => ho.ne_ hu hne (by rw [hq]; exact hh)
theorem OwnR.grownE {w w' : World} {base U n c : Nat} {A : Option Addr} {e : TypeId} {rs : List RowA} {cs : List Value} (h : OwnR w base A n c rs) (hu : Blk w U e cs) (hg : w.grownBy w' (some U)) (he : 67 ≠ e ∧ 36 ≠ e) : OwnR w' base A n c rs := ⟨h.out.grownE hu hg he.1, fun r hr => (h.rows r hr).grownE hu hg he.2⟩
theorem growS (w w' : World) [h : Fut w w'] (row : Option Nat) : w.grownBy w' row := ⟨(fut w w').os, (fut w w').tape, (fut w w').output, (fut w w').size, fun i hi _ => (fut w w').block i hi⟩
theorem OwnR.more {w : World} {base base' n c : Nat} {A : Option Addr} {rs : List RowA} (h : OwnR w base A n c rs) (hb : base' ≤ base) : OwnR w base' A n c rs := ⟨h.out.more hb, fun r hr => (h.rows r hr).more hb⟩
theorem pick_vals {s : Sch} {vss : List (List Val)} {ns : List ByteArray} {r : List Val} (h : r ∈ (pickR s vss ns).1) : r.length = ns.length ∧ ∀ v ∈ r, ∃ u, (u = Val.zero ∨ ∃ vs ∈ vss, u ∈ vs) ∧ v = clean u := by
  rw [pickR_eq] at h
  split at h
  · obtain ⟨vs, hvs, rfl⟩ := List.mem_map.1 h
    refine ⟨by rw [pickRow_len, pickFr_len], fun v hv => ?_⟩
    unfold pickRow at hv
    obtain ⟨k, _, rfl⟩ := List.mem_map.1 hv
    refine ⟨_, ?_, rfl⟩
    rw [List.getD_eq_getElem?_getD]
    cases e : vs[k.toNat]? with
    | none => exact .inl rfl
    | some u => exact .inr ⟨vs, hvs, List.mem_of_getElem? e⟩
  · simp at h
theorem readN_eq (t : Tb) (o : Opp) : readN t o = if o.kind ≠ 9 ∨ predB o.ns = false ∨ o.agg < 0 ∨ 4 < o.agg then .error 9 else match yesP t o.ns with | .error c => .error c | .ok l => readNB t o l := rfl
set_option maxRecDepth 100000 in
set_option maxHeartbeats 16000000 in
theorem readN_any {w1 : World} (g D T O U : Nat) (t : TbA) (o : OpA) (x0 x1 x2 x3 x4 x5 x6 : Value) (w : World) (h : Doer w g D T O t o) (hu : Blk w U 59 [x0, x1, x2, x3, x4, x5, x6]) (ho : OpIn w1 o) [f1 : Fut w1 w] (hf : TbFine t) (hlen : t.rs.length ≤ 4096) (hrow : ∀ vs ∈ t.rs.map RowA.vs, vs.length = t.s.cols.length) (hfine : ∀ vs ∈ t.rs.map RowA.vs, ∀ v ∈ vs, FineD v) (hag : o.agg = 0) (hcn : o.cols.length ≤ 3518437208780) (hn12 : t.s.cols.length ≤ 12) :
    Calls Tryz.prog 75 #[.pointer (some ⟨D, 0, none⟩), .pointer (some ⟨U, 0, none⟩)] w fun e w' => ReadNR U x0 x3 x4 x5 x6 w (readN t.tb o.op) e w' := by
  have HAG := hide hag
  clear hag
  have z1_ := f1.below.size
  have HD := hide h; have HU := hide hu
  have HSC := hide (h.own.r.tin hf).sch
  have HRW := hide hrow; have HFI := hide hfine
  have hcl := ho.clen; have hcc := ho.ccap
  have PM := fun (w' : World) [hq : Fut w w'] => haveI := Fut.tr f1 hq; ppred_any o.ns o.An o.cn w' ho.prd
  have YS := fun (w' : World) (hs : Fut w w') => yes_any (w1 := w1) g D T O t o w' h.fut ho (f1 := Fut.tr f1 hs) hf
  obtain ⟨R, hR⟩ : ∃ R, readN t.tb o.op = R := ⟨_, rfl⟩
  have HR := hide hR
  rw [hR]
  clear hR h hu hrow hfine
  obtain ⟨d0, d1⟩ := At.z2 (HD.out.d.fut (w' := w)).at0
  have ld := (HD.out.d.fut (w' := w)).lt
  obtain ⟨t0, t1, t2, t3, t4, t5⟩ := At.z6 (HD.out.tb.fut (w' := w)).at0
  have lt_ := (HD.out.tb.fut (w' := w)).lt
  have ft_ := (HD.out.tb.fut (w' := w)).free
  obtain ⟨o0, o1, o2, o3, o4, o5, o6, o7, o8, o9, o10, o11, o12, o13, o14, o15⟩ := At.zOp (HD.out.op.fut (w' := w)).at0
  have lo := (HD.out.op.fut (w' := w)).lt
  unfold TbA.cells at *
  by_cases hk : o.kind = 9
  · have hkb : (o.kind != 9) = false := bne_eq_false_iff_eq.2 hk
    cases hp : predB o.ns with
    | false =>
      have HE : Hid (R = .error 9) := by show _ = _; rw [← HR.out, readN, if_pos (show o.op.kind ≠ 9 ∨ predB o.op.ns = false ∨ o.op.agg < 0 ∨ 4 < o.op.agg from Or.inr (Or.inl (show predB o.op.ns = false from hp)))]
      rw [hp] at PM
      have PM := hide PM
      clear hp hk YS
      go_enter Tryz.func75, Tryz.ntmps75
      go_wp2_with (first | (go_at_call 123; (with_reducible refine (PM.out _).mono ?_); rintro e w3 ⟨rfl, hs3⟩; clear d0 d1 ld t0 t1 t2 t3 t4 t5 lt_ ft_ o0 o1 o2 o3 o4 o5 o6 o7 o8 o9 o10 o11 o12 o13 o14 o15 lo; obtain ⟨d0, d1⟩ := At.z2 (HD.out.d.fut (w' := w3)).at0; have ld := (HD.out.d.fut (w' := w3)).lt; obtain ⟨t0, t1, t2, t3, t4, t5⟩ := At.z6 (HD.out.tb.fut (w' := w3)).at0; have lt_ := (HD.out.tb.fut (w' := w3)).lt; have ft_ := (HD.out.tb.fut (w' := w3)).free; obtain ⟨o0, o1, o2, o3, o4, o5, o6, o7, o8, o9, o10, o11, o12, o13, o14, o15⟩ := At.zOp (HD.out.op.fut (w' := w3)).at0; have lo := (HD.out.op.fut (w' := w3)).lt) | (go_at_call 122; (with_reducible refine (throw_yes _ _).mono ?_); rintro e w9 ⟨rfl, h9⟩; obtain rfl := h9.symm))
      exact ⟨rfl, by rw [HE.out]; exact ⟨rfl, Step.of⟩⟩
    | true =>
      have HP := hide hp
      rw [hp] at PM
      have PM := hide PM
      clear hp
      by_cases ha : o.agg < 0
      · have HE : Hid (R = .error 9) := by show _ = _; rw [← HR.out, readN, if_pos (show o.op.kind ≠ 9 ∨ predB o.op.ns = false ∨ o.op.agg < 0 ∨ 4 < o.op.agg from Or.inr (Or.inr (Or.inl ha)))]
        have had : decide (o.agg < 0) = true := decide_eq_true ha
        clear hk YS ha
        go_enter Tryz.func75, Tryz.ntmps75
        go_wp2_with (first | (go_at_call 123; (with_reducible refine (PM.out _).mono ?_); rintro e w3 ⟨rfl, hs3⟩; clear d0 d1 ld t0 t1 t2 t3 t4 t5 lt_ ft_ o0 o1 o2 o3 o4 o5 o6 o7 o8 o9 o10 o11 o12 o13 o14 o15 lo; obtain ⟨d0, d1⟩ := At.z2 (HD.out.d.fut (w' := w3)).at0; have ld := (HD.out.d.fut (w' := w3)).lt; obtain ⟨t0, t1, t2, t3, t4, t5⟩ := At.z6 (HD.out.tb.fut (w' := w3)).at0; have lt_ := (HD.out.tb.fut (w' := w3)).lt; have ft_ := (HD.out.tb.fut (w' := w3)).free; obtain ⟨o0, o1, o2, o3, o4, o5, o6, o7, o8, o9, o10, o11, o12, o13, o14, o15⟩ := At.zOp (HD.out.op.fut (w' := w3)).at0; have lo := (HD.out.op.fut (w' := w3)).lt) | (go_at_call 122; (with_reducible refine (throw_yes _ _).mono ?_); rintro e w9 ⟨rfl, h9⟩; obtain rfl := h9.symm))
        exact ⟨rfl, by rw [HE.out]; exact ⟨rfl, Step.of⟩⟩
      · have had : decide (o.agg < 0) = false := decide_eq_false ha
        by_cases h4 : 4 < o.agg
        · have HE : Hid (R = .error 9) := by show _ = _; rw [← HR.out, readN, if_pos (show o.op.kind ≠ 9 ∨ predB o.op.ns = false ∨ o.op.agg < 0 ∨ 4 < o.op.agg from Or.inr (Or.inr (Or.inr h4)))]
          have h4d : decide (4 < o.agg) = true := decide_eq_true h4
          clear hk YS
          go_enter Tryz.func75, Tryz.ntmps75
          go_wp2_with (first | (go_at_call 123; (with_reducible refine (PM.out _).mono ?_); rintro e w3 ⟨rfl, hs3⟩; clear d0 d1 ld t0 t1 t2 t3 t4 t5 lt_ ft_ o0 o1 o2 o3 o4 o5 o6 o7 o8 o9 o10 o11 o12 o13 o14 o15 lo; obtain ⟨d0, d1⟩ := At.z2 (HD.out.d.fut (w' := w3)).at0; have ld := (HD.out.d.fut (w' := w3)).lt; obtain ⟨t0, t1, t2, t3, t4, t5⟩ := At.z6 (HD.out.tb.fut (w' := w3)).at0; have lt_ := (HD.out.tb.fut (w' := w3)).lt; have ft_ := (HD.out.tb.fut (w' := w3)).free; obtain ⟨o0, o1, o2, o3, o4, o5, o6, o7, o8, o9, o10, o11, o12, o13, o14, o15⟩ := At.zOp (HD.out.op.fut (w' := w3)).at0; have lo := (HD.out.op.fut (w' := w3)).lt) | (go_at_call 122; (with_reducible refine (throw_yes _ _).mono ?_); rintro e w9 ⟨rfl, h9⟩; obtain rfl := h9.symm))
          exact ⟨rfl, by rw [HE.out]; exact ⟨rfl, Step.of⟩⟩
        · have h4d : decide (4 < o.agg) = false := decide_eq_false h4
          have HR1 : Hid ((match yesP t.tb o.ns with
            | .error c => .error c
            | .ok l => readNB t.tb o.op l) = R) := by
            show _ = _
            rw [← HR.out, readN_eq, if_neg (show ¬ (o.op.kind ≠ 9 ∨ predB o.op.ns = false ∨ o.op.agg < 0 ∨ 4 < o.op.agg) by rintro (hh | hh | hh | hh); exact hh hk; (rw [show predB o.op.ns = true from HP.out] at hh; cases hh); exact ha hh; exact h4 hh)]
            rfl
          clear HR hk
          cases hy : yesP t.tb o.ns with
          | error c =>
            have HE : Hid (R = .error c) := by show _ = _; rw [← HR1.out, hy]
            rw [hy] at YS
            have YS := hide YS
            clear hy
            go_enter Tryz.func75, Tryz.ntmps75
            go_wp2_with (first | (go_at_call 123; (with_reducible refine (PM.out _).mono ?_); rintro e w3 ⟨rfl, hs3⟩; clear d0 d1 ld t0 t1 t2 t3 t4 t5 lt_ ft_ o0 o1 o2 o3 o4 o5 o6 o7 o8 o9 o10 o11 o12 o13 o14 o15 lo; obtain ⟨d0, d1⟩ := At.z2 (HD.out.d.fut (w' := w3)).at0; have ld := (HD.out.d.fut (w' := w3)).lt; obtain ⟨t0, t1, t2, t3, t4, t5⟩ := At.z6 (HD.out.tb.fut (w' := w3)).at0; have lt_ := (HD.out.tb.fut (w' := w3)).lt; have ft_ := (HD.out.tb.fut (w' := w3)).free; obtain ⟨o0, o1, o2, o3, o4, o5, o6, o7, o8, o9, o10, o11, o12, o13, o14, o15⟩ := At.zOp (HD.out.op.fut (w' := w3)).at0; have lo := (HD.out.op.fut (w' := w3)).lt) | (go_at_call 122; (with_reducible refine (throw_no _ _).mono ?_); rintro e w9 ⟨rfl, h9⟩; obtain rfl := h9.symm) | (go_at_call 124; (with_reducible refine (YS.out _ inferInstance).mono ?_); rintro e w4 ⟨rfl, hs4⟩))
            exact ⟨rfl, by rw [HE.out]; exact ⟨rfl, Step.of⟩⟩
          | ok l =>
            have HR2 : Hid (readNB t.tb o.op l = R) := by show _ = _; rw [← HR1.out, hy]
            have HLL : Hid (l.length ≤ t.rs.length) := by
              show _ ≤ _
              unfold yesP at hy
              split at hy
              · cases hy
              · injection hy with hy
                rw [← hy]
                have := yesTo_bd o.ns t.s (t.rs.map RowA.vs)
                rw [List.length_map] at this
                exact this
            rw [hy] at YS
            have YS := hide YS
            clear hy HR1
            have hab : (o.agg == 0) = true := beq_iff_eq.2 HAG.out
            go_enter Tryz.func75, Tryz.ntmps75
            go_wp2_with (first | (go_at_call 123; (with_reducible refine (PM.out _).mono ?_); rintro e w3 ⟨rfl, hs3⟩; clear d0 d1 ld t0 t1 t2 t3 t4 t5 lt_ ft_ o0 o1 o2 o3 o4 o5 o6 o7 o8 o9 o10 o11 o12 o13 o14 o15 lo; obtain ⟨d0, d1⟩ := At.z2 (HD.out.d.fut (w' := w3)).at0; have ld := (HD.out.d.fut (w' := w3)).lt; obtain ⟨t0, t1, t2, t3, t4, t5⟩ := At.z6 (HD.out.tb.fut (w' := w3)).at0; have lt_ := (HD.out.tb.fut (w' := w3)).lt; have ft_ := (HD.out.tb.fut (w' := w3)).free; obtain ⟨o0, o1, o2, o3, o4, o5, o6, o7, o8, o9, o10, o11, o12, o13, o14, o15⟩ := At.zOp (HD.out.op.fut (w' := w3)).at0; have lo := (HD.out.op.fut (w' := w3)).lt) | (go_at_call 122; (with_reducible refine (throw_no _ _).mono ?_); rintro e w9 ⟨rfl, h9⟩; obtain rfl := h9.symm) | (go_at_call 124; (with_reducible refine (YS.out _ inferInstance).mono ?_); rintro e w4 ⟨⟨A4, c4, rfl, ho4⟩, hs4⟩; have HO4 := hide ho4; clear ho4; clear d0 d1 ld t0 t1 t2 t3 t4 t5 lt_ ft_ o0 o1 o2 o3 o4 o5 o6 o7 o8 o9 o10 o11 o12 o13 o14 o15 lo; obtain ⟨d0, d1⟩ := At.z2 (HD.out.d.fut (w' := w4)).at0; have ld := (HD.out.d.fut (w' := w4)).lt; obtain ⟨t0, t1, t2, t3, t4, t5⟩ := At.z6 (HD.out.tb.fut (w' := w4)).at0; have lt_ := (HD.out.tb.fut (w' := w4)).lt; have ft_ := (HD.out.tb.fut (w' := w4)).free; obtain ⟨o0, o1, o2, o3, o4, o5, o6, o7, o8, o9, o10, o11, o12, o13, o14, o15⟩ := At.zOp (HD.out.op.fut (w' := w4)).at0; have lo := (HD.out.op.fut (w' := w4)).lt))
            clear d0 d1 ld t0 t1 t2 t3 t4 t5 lt_ ft_ o0 o1 o2 o3 o4 o5 o6 o7 o8 o9 o10 o11 o12 o13 o14 o15 lo
            obtain ⟨wy, hwy⟩ : ∃ x : World, x = w4 := ⟨_, rfl⟩
            rw [← hwy] at hs4 HO4 ⊢
            clear hwy
            go_loopw [7, 55] (fun _ i wr => ∃ k : Nat, k ≤ o.cols.length ∧ i = .int .i64 k ∧ Hid ((o.cols.take k).all (fun n => decide (0 ≤ idx (named n) t.s.cols)) = true) ∧ Step wy wr) (fun _ i _ => o.cols.length - (intOf i).toNat)
            case atStart => exact ⟨0, Nat.zero_le _, rfl, rfl, Step.of⟩
            case round =>
              obtain ⟨k, hk, rfl, HAL, hst⟩ := hrel
              obtain ⟨wo, rfl⟩ : ∃ x : World, x = wr := ⟨_, rfl⟩
              have hzo := hst.size
              have hzy : w.heap.size ≤ wy.heap.size := (fut w wy).size
              by_cases hlt : k < o.cols.length
              · haveI f3 : Fut w1 wo := Fut.tr f1 (Fut.mk' (fut w wo))
                obtain ⟨b, off, hA, hb, hc⟩ := ho.cols.elem (w' := wo) f3 (k := k) (by simpa [strCells] using hlt)
                obtain ⟨nm, hnm⟩ : ∃ nm, o.cols[k]? = some nm := ⟨_, List.getElem?_eq_getElem hlt⟩
                have n0 := At.l1 (hc k [.string nm] (by simp [strCells, hnm]))
                simp only [Nat.mul_one] at n0
                have hkl : (k : Int) < (o.cols.length : Int) := by omega
                have hk0 : (0 : Int) ≤ (k : Int) := by omega
                have hlb : b < wo.heap.size := by omega
                obtain ⟨x, hx⟩ : ∃ x, idx (named nm) t.s.cols = x := ⟨_, rfl⟩
                have FD : Hid (∀ (w' : World), Fut w w' → Calls Tryz.prog 125 #[.agg #[.int .i64 t.s.id, .slice t.As t.s.cols.length t.cs, .int .i64 t.s.next], .string nm] w' fun e w'' => e = .returned (.int .i64 x) ∧ Step w' w'') := fun w' hq => by
                  have := ((HSC.out.below hq.below).find nm)
                  rw [hx] at this
                  exact this.mono fun e w'' h => ⟨h.1, ⟨h.2⟩⟩
                rw [hA]
                obtain ⟨d0, d1⟩ := At.z2 (HD.out.d.fut (w' := wo)).at0
                have ld := (HD.out.d.fut (w' := wo)).lt
                obtain ⟨t0, t1, t2, t3, t4, t5⟩ := At.z6 (HD.out.tb.fut (w' := wo)).at0
                have lt_ := (HD.out.tb.fut (w' := wo)).lt
                have ft_ := (HD.out.tb.fut (w' := wo)).free
                obtain ⟨o0, o1, o2, o3, o4, o5, o6, o7, o8, o9, o10, o11, o12, o13, o14, o15⟩ := At.zOp (HD.out.op.fut (w' := wo)).at0
                have lo := (HD.out.op.fut (w' := wo)).lt
                rw [hA] at o2
                have HAA := hide hA
                have HNM := hide hnm; have HX := hide hx
                clear hc hnm hx hA
                by_cases hx0 : x < 0
                · have HB : Hid (o.cols.all (fun n => decide (0 ≤ idx (named n) t.s.cols)) = false) := by
                    show _ = _
                    cases e : o.cols.all (fun n => decide (0 ≤ idx (named n) t.s.cols)) with
                    | false => rfl
                    | true =>
                      have := List.all_eq_true.1 e nm (List.mem_of_getElem? HNM.out)
                      rw [HX.out, decide_eq_true_iff] at this
                      omega
                  have HE : Hid (R = .error 5) := by show _ = _; rw [← HR2.out, readNB, if_pos (show o.op.cols.all (fun n => decide (0 ≤ idx (named n) t.tb.s.cols)) = false from HB.out)]
                  have hxd : decide (x < 0) = true := decide_eq_true hx0
                  go_wp2_with (first | (go_at_call 125; (with_reducible refine (FD.out _ inferInstance).mono ?_); rintro e w5 ⟨rfl, hs5⟩) | (go_at_call 122; (with_reducible refine (throw_yes _ _).mono ?_); rintro e w9 ⟨rfl, h9⟩; obtain rfl := h9.symm))
                  exact ⟨rfl, by rw [HE.out]; exact ⟨rfl, Step.of⟩⟩
                · have HAL2 : Hid ((o.cols.take (k + 1)).all (fun n => decide (0 ≤ idx (named n) t.s.cols)) = true) := by
                    show _ = _
                    rw [List.take_add_one, HNM.out, List.all_append, HAL.out]
                    simp [HX.out]
                    omega
                  have hxd : decide (x < 0) = false := decide_eq_false hx0
                  go_wp2_with (first | (go_at_call 125; (with_reducible refine (FD.out _ inferInstance).mono ?_); rintro e w5 ⟨rfl, hs5⟩) | (go_at_call 122; (with_reducible refine (throw_no _ _).mono ?_); rintro e w9 ⟨rfl, h9⟩; obtain rfl := h9.symm))
                  go_roundw
                  case rel => exact ⟨k + 1, by omega, by go_num, HAL2.out, Step.of⟩
                  case measure => simp [intOf]; omega
              · obtain rfl : k = o.cols.length := by omega
                have HALL : Hid (o.cols.all (fun n => decide (0 ≤ idx (named n) t.s.cols)) = true) := by
                  show _ = _
                  have := HAL.out
                  rwa [List.take_length] at this
                have HR3 : Hid (.ok (namesN t.tb o.op, (pickR t.s (takeR (t.rs.map RowA.vs) l).1 (namesN t.tb o.op)).1) = R) := by
                  show _ = _
                  rw [← HR2.out, readNB, if_neg (show ¬ o.op.cols.all (fun n => decide (0 ≤ idx (named n) t.tb.s.cols)) = false by rw [show o.op.cols.all (fun n => decide (0 ≤ idx (named n) t.tb.s.cols)) = true from HALL.out]; simp)]
                  rfl
                have TK := hide (fun (w' : World) [hq : Fut wo w'] => haveI : Fut wy w' := Fut.tr ⟨hst.below⟩ hq; ptake_any (w0 := wo) (w1 := wy) t.rs t.Ar t.cr l A4 c4 w' ((HD.out.own.fut (w' := wo)).r.tin hf).rows (HO4.out.sl (int_fit _).len) (by have := HLL.out; omega))
                have CL : Hid (∀ (w' : World), Fut w w' → Calls Tryz.prog 127 #[.slice o.Ac o.cols.length o.cc] w' fun e w'' => ∃ (A' : Option Addr) (c' : Nat), e = .returned (.slice A' o.cols.length c') ∧ Own w'' w.heap.size 9 1 (.slice A' o.cols.length c') (strCells o.cols) ∧ Step w' w'') := fun w' hq => by
                  haveI := Fut.tr f1 hq
                  refine (cloneS_any o.Ac o.cc o.cols w' ho.cols.fut hcl).mono ?_
                  rintro e w'' ⟨A', c', he, _, _, h3, h4⟩
                  exact ⟨A', c', he, h3.more hq.below.size, ⟨h4⟩⟩
                obtain ⟨d0, d1⟩ := At.z2 (HD.out.d.fut (w' := wo)).at0
                have ld := (HD.out.d.fut (w' := wo)).lt
                obtain ⟨t0, t1, t2, t3, t4, t5⟩ := At.z6 (HD.out.tb.fut (w' := wo)).at0
                have lt_ := (HD.out.tb.fut (w' := wo)).lt
                have ft_ := (HD.out.tb.fut (w' := wo)).free
                obtain ⟨o0, o1, o2, o3, o4, o5, o6, o7, o8, o9, o10, o11, o12, o13, o14, o15⟩ := At.zOp (HD.out.op.fut (w' := wo)).at0
                have lo := (HD.out.op.fut (w' := wo)).lt
                go_upto_region 11 with (first | (go_at_call 126; (with_reducible refine (TK.out _).mono ?_); rintro e w6 ⟨A6, c6, os, hos, rfl, ho6, hs6⟩; have HO6 := hide ho6; have HOS := hide hos; clear ho6 hos; clear d0 d1 ld t0 t1 t2 t3 t4 t5 lt_ ft_ o0 o1 o2 o3 o4 o5 o6 o7 o8 o9 o10 o11 o12 o13 o14 o15 lo; obtain ⟨d0, d1⟩ := At.z2 (HD.out.d.fut (w' := w6)).at0; have ld := (HD.out.d.fut (w' := w6)).lt; obtain ⟨t0, t1, t2, t3, t4, t5⟩ := At.z6 (HD.out.tb.fut (w' := w6)).at0; have lt_ := (HD.out.tb.fut (w' := w6)).lt; have ft_ := (HD.out.tb.fut (w' := w6)).free; obtain ⟨o0, o1, o2, o3, o4, o5, o6, o7, o8, o9, o10, o11, o12, o13, o14, o15⟩ := At.zOp (HD.out.op.fut (w' := w6)).at0; have lo := (HD.out.op.fut (w' := w6)).lt) | (go_at_call 127; (with_reducible refine (CL.out _ inferInstance).mono ?_); rintro e w7 ⟨A7, c7, rfl, ho7, hs7⟩; have HO7 := hide ho7; clear ho7; have ub := HU.out.fut (w' := w7); obtain ⟨u0, u1, u2, u3, u4, u5, u6⟩ := At.z7 ub.at0; have lu := ub.lt; have fu := ub.free; clear ub))
                obtain ⟨X7, hX7⟩ : ∃ x : World, x = w7.setCell ⟨U, 1, none⟩ (.slice A7 o.cols.length c7) := ⟨_, rfl⟩
                have hu7 := HU.out.fut (w' := w7)
                have HG7 : Hid (w7.grownBy X7 (some U)) := by rw [hX7]; exact grown_setCell w7 U 1 _
                have HUB7 : Hid (Blk X7 U 59 [x0, .slice A7 o.cols.length c7, x2, x3, x4, x5, x6]) := by rw [hX7]; exact hu7.set_ 1 _
                have HD7 : Hid (Doer X7 g D T O t o) := (HD.out.fut (w' := w7)).grownE hu7 HG7.out (by decide) (by decide)
                have HB7 : Hid (w.grownBy X7 (some U)) := (growS w w7 _).trans HG7.out
                have HR7 : Hid (OwnR X7 w.heap.size A6 os.length c6 os) := ((HO6.out.fut (w' := w7)).grownE hu7 HG7.out (by decide)).more (fut w wo).size
                have HN7 : Hid (Own X7 w.heap.size 9 1 (.slice A7 o.cols.length c7) (strCells o.cols)) := HO7.out.grownE hu7 HG7.out (by decide)
                have HZ7 : Hid (w.heap.size ≤ X7.heap.size) := Nat.le_trans (fut w w7).size HG7.out.size
                rw [← hX7]
                clear hX7 hu7 d0 d1 ld t0 t1 t2 t3 t4 t5 lt_ ft_ o0 o1 o2 o3 o4 o5 o6 o7 o8 o9 o10 o11 o12 o13 o14 o15 lo u0 u1 u2 u3 u4 u5 u6 lu fu CL TK
                obtain ⟨d0, d1⟩ := At.z2 (HD7.out.d.fut (w' := X7)).at0
                have ld := (HD7.out.d.fut (w' := X7)).lt
                obtain ⟨t0, t1, t2, t3, t4, t5⟩ := At.z6 (HD7.out.tb.fut (w' := X7)).at0
                have lt_ := (HD7.out.tb.fut (w' := X7)).lt
                have ft_ := (HD7.out.tb.fut (w' := X7)).free
                obtain ⟨o0, o1, o2, o3, o4, o5, o6, o7, o8, o9, o10, o11, o12, o13, o14, o15⟩ := At.zOp (HD7.out.op.fut (w' := X7)).at0
                have lo := (HD7.out.op.fut (w' := X7)).lt
                have HOLN : Hid (os.length ≤ 4096) := by
                  show _ ≤ _
                  have h1 := take_lenD (t.rs.map RowA.vs) l
                  have h2 := congrArg List.length HOS.out
                  rw [List.length_map] at h2
                  have h3 := HLL.out
                  omega
                have HVL : Hid (∀ vs ∈ os.map RowA.vs, vs.length ≤ 3518437208780 ∧ ∀ v ∈ vs, v.s.size ≤ 9223372036854775807) := fun vs hvs => by
                  rw [HOS.out] at hvs
                  obtain ⟨x, hx, rfl⟩ := take_mem hvs
                  refine ⟨by rw [List.length_map]; exact (hf.vals x hx).1, fun v hv => ?_⟩
                  obtain ⟨u, hu, rfl⟩ := List.mem_map.1 hv
                  exact clean_fineD ((hf.vals x hx).2 u hu)
                by_cases hz : o.cols.length = 0
                · have hzb : ((o.cols.length : Int) == 0) = true := by rw [beq_iff_eq]; omega
                  have HNS : Hid (namesN t.tb o.op = namesC t.s.cols) := by show (if o.cols.length = 0 then _ else _) = _; rw [if_pos hz]; rfl
                  rw [HNS.out] at HR3
                  have PA : Hid (∀ (w' : World), Fut X7 w' → Calls Tryz.prog 128 #[.pointer (some ⟨T, 0, none⟩)] w' fun e w'' => ∃ (A' : Option Addr) (c' : Nat), e = .returned (.slice A' t.s.cols.length c') ∧ Own w'' w'.heap.size 9 1 (.slice A' t.s.cols.length c') (strCells (namesC t.s.cols)) ∧ Step w' w'') := fun w' hq => pall_any (w1 := X7) T t.s t.As t.cs w' (HD7.out.own.r.tin hf).sch ((At.z6 (HD7.out.tb.fut (w' := w')).at0).2.1) (HD7.out.tb.fut (w' := w')).lt
                  go_upto_region 13 with (go_at_call 128; (with_reducible refine (PA.out _ inferInstance).mono ?_); rintro e w8 ⟨A8, c8, rfl, ho8, hs8⟩; have HO8 := hide ho8; clear ho8; have ub := HUB7.out.fut (w' := w8); obtain ⟨u0, u1, u2, u3, u4, u5, u6⟩ := At.z7 ub.at0; have lu := ub.lt; have fu := ub.free; clear ub)
                  obtain ⟨X8, hX8⟩ : ∃ x : World, x = w8.setCell ⟨U, 1, none⟩ (.slice A8 t.s.cols.length c8) := ⟨_, rfl⟩
                  have hu8 := HUB7.out.fut (w' := w8)
                  have HG8 : Hid (w8.grownBy X8 (some U)) := by rw [hX8]; exact grown_setCell w8 U 1 _
                  have HUB8 : Hid (Blk X8 U 59 [x0, .slice A8 t.s.cols.length c8, x2, x3, x4, x5, x6]) := by rw [hX8]; exact hu8.set_ 1 _
                  have HD8 : Hid (Doer X8 g D T O t o) := (HD7.out.fut (w' := w8)).grownE hu8 HG8.out (by decide) (by decide)
                  have HB8 : Hid (w.grownBy X8 (some U)) := (HB7.out.trans (growS X7 w8 _)).trans HG8.out
                  have HR8 : Hid (OwnR X8 w.heap.size A6 os.length c6 os) := (HR7.out.fut (w' := w8)).grownE hu8 HG8.out (by decide)
                  have HN8 : Hid (Own X8 w.heap.size 9 1 (.slice A8 t.s.cols.length c8) (strCells (namesC t.s.cols))) := ((HO8.out.more (Nat.le_trans HZ7.out (fut X7 _).size)).grownE hu8 HG8.out (by decide))
                  have HZ8 : Hid (w.heap.size ≤ X8.heap.size) := Nat.le_trans HZ7.out (Nat.le_trans (fut X7 w8).size HG8.out.size)
                  have HNC : Hid ((namesC t.s.cols).length = t.s.cols.length) := List.length_map ..
                  rw [← hX8]
                  clear hX8 hu8 PA d0 d1 ld t0 t1 t2 t3 t4 t5 lt_ ft_ o0 o1 o2 o3 o4 o5 o6 o7 o8 o9 o10 o11 o12 o13 o14 o15 lo u0 u1 u2 u3 u4 u5 u6 lu fu
                  obtain ⟨d0, d1⟩ := At.z2 (HD8.out.d.fut (w' := X8)).at0
                  have ld := (HD8.out.d.fut (w' := X8)).lt
                  obtain ⟨t0, t1, t2, t3, t4, t5⟩ := At.z6 (HD8.out.tb.fut (w' := X8)).at0
                  have lt_ := (HD8.out.tb.fut (w' := X8)).lt
                  have ft_ := (HD8.out.tb.fut (w' := X8)).free
                  obtain ⟨o0, o1, o2, o3, o4, o5, o6, o7, o8, o9, o10, o11, o12, o13, o14, o15⟩ := At.zOp (HD8.out.op.fut (w' := X8)).at0
                  have lo := (HD8.out.op.fut (w' := X8)).lt
                  have HOLX := HOLN.out
                  have HRI := hide (HR8.out.rin (by omega) HVL.out)
                  have PK : Hid (∀ (w' : World), Fut X8 w' → Calls Tryz.prog 129 #[.agg #[.int .i64 t.s.id, .slice t.As t.s.cols.length t.cs, .int .i64 t.s.next], .slice A6 os.length c6, .slice A8 t.s.cols.length c8] w' fun e w'' => ∃ (A' : Option Addr) (c' : Nat) (ps : List RowA), ps.map RowA.vs = (pickR t.s (takeR (t.rs.map RowA.vs) l).1 (namesC t.s.cols)).1 ∧ e = .returned (.tuple #[.slice A' ps.length c', .int .i64 (pickR t.s (takeR (t.rs.map RowA.vs) l).1 (namesC t.s.cols)).2]) ∧ OwnR w'' w'.heap.size A' ps.length c' ps ∧ Step w' w'') := fun w' hq => by
                    have := ppick_any (w0 := X8) (w1 := X8) (w2 := X8) t.s t.As t.cs os A6 c6 (namesC t.s.cols) A8 c8 w' (HD8.out.own.r.tin hf).sch HRI.out (HN8.out.sl (txs_fit _).len) (by rw [HNC.out]; omega)
                    rw [HOS.out, HNC.out] at this
                    exact this
                  have ub := HUB8.out.fut (w' := X8)
                  obtain ⟨u0, u1, u2, u3, u4, u5, u6⟩ := At.z7 ub.at0
                  have lu := ub.lt
                  have fu := ub.free
                  clear ub
                  refine wp_region_held_drew (S := (fun w' => Step X8 w' ∧ (∀ b o, b < X8.heap.size → w'.cell? ⟨b, o, none⟩ = X8.cell? ⟨b, o, none⟩))) (by kernel_rfl) (by (try dsimp only); (first | exact ⟨hS1, hS2⟩ | exact ⟨Step.of, (bcell (fut _ _)).1⟩)) (fun hHeld => ?_)
                  refine wT 0 113 (by assumption) ?_
                  refine wT 7 120 (by assumption) ?_
                  refine wT 8 121 (by assumption) ?_
                  refine wT 1 114 (by assumption) ?_
                  refine wT 9 122 (by assumption) ?_
                  refine wT 2 115 (by assumption) ?_
                  refine wT 10 123 (by assumption) ?_
                  refine wT 3 116 (by assumption) ?_
                  refine wT 11 124 (by assumption) ?_
                  refine wT 4 117 (by assumption) ?_
                  refine wT 5 118 (by assumption) ?_
                  refine wT 6 119 (by assumption) ?_
                  refine wpAnyH_ready (rs := [12]) (by kernel_rfl) (by simp) ?_
                  refine AllReadyH.cons (o := ⟨some 125, _, _, _, _, _⟩) rfl (fun K hK => ?_) AllReadyH.nil
                  obtain ⟨hS1, hS2⟩ := hHeld
                  go_simp
                  (go_at_call 129; (with_reducible refine (PK.out _ inferInstance).mono ?_); rintro e w9 ⟨A9, c9, ps, hps, rfl, ho9, hs9⟩; have HPS := hide hps; have HO9 := hide ho9; clear hps ho9)
                  refine hK.out _ _ (by (try dsimp only); (first | exact ⟨hS1, hS2⟩ | exact ⟨Step.of, (bcell (fut _ _)).1⟩)) (fun hHeld => ?_)
                  clear hK K
                  (try simp only [Act.put, List.setIfInBounds_toArray, List.set_cons_zero, List.set_cons_succ])
                  refine wT 13 112 (by assumption) ?_
                  refine wT 14 126 (by assumption) ?_
                  refine wT 15 127 (by assumption) ?_
                  refine wT 16 8 (by assumption) ?_
                  refine wpAnyH_done (by kernel_rfl) ?_ _
                  have HPP : Hid (ps.length ≤ 4096) := by
                    show _ ≤ _
                    have h1 := congrArg List.length HPS.out
                    rw [List.length_map] at h1
                    have h2 := congrArg List.length HOS.out
                    rw [List.length_map] at h2
                    have h3 : (pickR t.s (takeR (t.rs.map RowA.vs) l).1 (namesC t.s.cols)).1.length ≤ (takeR (t.rs.map RowA.vs) l).1.length := by
                      rw [pickR_eq]
                      split
                      · simp
                      · simp
                    have h4 := HOLN.out
                    omega
                  have HPV : Hid (∀ vs ∈ ps.map RowA.vs, vs.length ≤ 3518437208780 ∧ ∀ v ∈ vs, v.s.size ≤ 9223372036854775807) := fun vs hvs => by
                    rw [HPS.out] at hvs
                    obtain ⟨h1, h2⟩ := pick_vals hvs
                    refine ⟨by rw [h1, HNC.out]; omega, fun v hv => ?_⟩
                    obtain ⟨u, hu, rfl⟩ := h2 v hv
                    rcases hu with rfl | ⟨y, hy, hu⟩
                    · decide
                    · rw [← HOS.out] at hy
                      exact clean_fineD ((HVL.out y hy).2 u hu)
                  have hpp := HPP.out
                  have HRI2 := hide (HO9.out.rin (by omega) HPV.out)
                  have SO : Hid (∀ (w' : World), Fut w9 w' → Calls Tryz.prog 63 #[.slice A9 ps.length c9] w' fun e w'' => ∃ (A' : Option Addr) (c' : Nat) (zs : List RowA), e = .returned (.slice A' ps.length c') ∧ zs.length = ps.length ∧ Asc lessL (zs.map RowA.vs) ∧ (zs.map RowA.vs).Perm (ps.map fun r => cleanL r.vs) ∧ OwnR w'' w'.heap.size A' ps.length c' zs ∧ Step w' w'') := fun w' hq => psort_any (w0 := w9) ps A9 c9 w' HRI2.out
                  clear PK
                  go_wp2_with (go_at_call 63; (with_reducible refine (SO.out _ inferInstance).mono ?_); rintro e w10 ⟨A10, c10, zs, rfl, hzl, hasc, hprm, ho10, hs10⟩; have HZL := hide hzl; have HASC := hide hasc; have HPRM := hide hprm; have HO10 := hide ho10; clear hzl hasc hprm ho10; clear u0 u1 u2 u3 u4 u5 u6 lu fu; have ub := HUB8.out.fut (w' := w10); obtain ⟨u0, u1, u2, u3, u4, u5, u6⟩ := At.z7 ub.at0; have lu := ub.lt; have fu := ub.free; clear ub)
                  go_end0
                  rw [← HR3.out]
                  have hz10 := HUB8.out.fut (w' := w10)
                  have hg10 := grown_setCell w10 U 2 (.slice A10 ps.length c10)
                  have hsz : w.heap.size ≤ w10.heap.size := Nat.le_trans HZ8.out (fut X8 w10).size
                  refine ⟨rfl, (HB8.out.trans (growS X8 w10 _)).trans hg10, A8, c8, zs, A10, c10, ⟨by show Own _ _ _ _ (.slice _ (namesC t.s.cols).length _) _; (try rw [HNC.out]); exact (HN8.out.fut (w' := w10)).grownE hz10 hg10 (by decide), ?_, HASC.out, ?_⟩, ?_⟩
                  · rw [HZL.out]
                    exact (HO10.out.more (Nat.le_trans HZ8.out (fut X8 _).size)).grownE hz10 hg10 (by decide)
                  · have := HPRM.out
                    rw [show ps.map (fun r => cleanL r.vs) = (ps.map RowA.vs).map cleanL by simp [List.map_map, Function.comp_def], HPS.out] at this
                    exact this
                  · show Blk _ _ _ [_, .slice _ (namesC t.s.cols).length _, _, _, _, _, _]
                    rw [HZL.out]
                    try rw [HNC.out]
                    exact hz10.set_ 2 _
                · have hzb : ((o.cols.length : Int) == 0) = false := by rw [beq_eq_false_iff_ne]; omega
                  have HNS : Hid (namesN t.tb o.op = o.cols) := by show (if o.cols.length = 0 then _ else _) = _; rw [if_neg hz]; rfl
                  rw [HNS.out] at HR3
                  have HNC : Hid (o.cols.length = o.cols.length) := rfl
                  go_upto_region 13 with fail
                  have HOLX := HOLN.out
                  have HRI := hide (HR7.out.rin (by omega) HVL.out)
                  have PK : Hid (∀ (w' : World), Fut X7 w' → Calls Tryz.prog 129 #[.agg #[.int .i64 t.s.id, .slice t.As t.s.cols.length t.cs, .int .i64 t.s.next], .slice A6 os.length c6, .slice A7 o.cols.length c7] w' fun e w'' => ∃ (A' : Option Addr) (c' : Nat) (ps : List RowA), ps.map RowA.vs = (pickR t.s (takeR (t.rs.map RowA.vs) l).1 (o.cols)).1 ∧ e = .returned (.tuple #[.slice A' ps.length c', .int .i64 (pickR t.s (takeR (t.rs.map RowA.vs) l).1 (o.cols)).2]) ∧ OwnR w'' w'.heap.size A' ps.length c' ps ∧ Step w' w'') := fun w' hq => by
                    have := ppick_any (w0 := X7) (w1 := X7) (w2 := X7) t.s t.As t.cs os A6 c6 (o.cols) A7 c7 w' (HD7.out.own.r.tin hf).sch HRI.out (HN7.out.sl (txs_fit _).len) (by rw [HNC.out]; omega)
                    rw [HOS.out, HNC.out] at this
                    exact this
                  have ub := HUB7.out.fut (w' := X7)
                  obtain ⟨u0, u1, u2, u3, u4, u5, u6⟩ := At.z7 ub.at0
                  have lu := ub.lt
                  have fu := ub.free
                  clear ub
                  refine wp_region_held_drew (S := (fun w' => Step X7 w' ∧ (∀ b o, b < X7.heap.size → w'.cell? ⟨b, o, none⟩ = X7.cell? ⟨b, o, none⟩))) (by kernel_rfl) (by (try dsimp only); (first | exact ⟨hS1, hS2⟩ | exact ⟨Step.of, (bcell (fut _ _)).1⟩)) (fun hHeld => ?_)
                  refine wT 0 113 (by assumption) ?_
                  refine wT 7 120 (by assumption) ?_
                  refine wT 8 121 (by assumption) ?_
                  refine wT 1 114 (by assumption) ?_
                  refine wT 9 122 (by assumption) ?_
                  refine wT 2 115 (by assumption) ?_
                  refine wT 10 123 (by assumption) ?_
                  refine wT 3 116 (by assumption) ?_
                  refine wT 11 124 (by assumption) ?_
                  refine wT 4 117 (by assumption) ?_
                  refine wT 5 118 (by assumption) ?_
                  refine wT 6 119 (by assumption) ?_
                  refine wpAnyH_ready (rs := [12]) (by kernel_rfl) (by simp) ?_
                  refine AllReadyH.cons (o := ⟨some 125, _, _, _, _, _⟩) rfl (fun K hK => ?_) AllReadyH.nil
                  obtain ⟨hS1, hS2⟩ := hHeld
                  go_simp
                  (go_at_call 129; (with_reducible refine (PK.out _ inferInstance).mono ?_); rintro e w9 ⟨A9, c9, ps, hps, rfl, ho9, hs9⟩; have HPS := hide hps; have HO9 := hide ho9; clear hps ho9)
                  refine hK.out _ _ (by (try dsimp only); (first | exact ⟨hS1, hS2⟩ | exact ⟨Step.of, (bcell (fut _ _)).1⟩)) (fun hHeld => ?_)
                  clear hK K
                  (try simp only [Act.put, List.setIfInBounds_toArray, List.set_cons_zero, List.set_cons_succ])
                  refine wT 13 112 (by assumption) ?_
                  refine wT 14 126 (by assumption) ?_
                  refine wT 15 127 (by assumption) ?_
                  refine wT 16 8 (by assumption) ?_
                  refine wpAnyH_done (by kernel_rfl) ?_ _
                  have HPP : Hid (ps.length ≤ 4096) := by
                    show _ ≤ _
                    have h1 := congrArg List.length HPS.out
                    rw [List.length_map] at h1
                    have h2 := congrArg List.length HOS.out
                    rw [List.length_map] at h2
                    have h3 : (pickR t.s (takeR (t.rs.map RowA.vs) l).1 (o.cols)).1.length ≤ (takeR (t.rs.map RowA.vs) l).1.length := by
                      rw [pickR_eq]
                      split
                      · simp
                      · simp
                    have h4 := HOLN.out
                    omega
                  have HPV : Hid (∀ vs ∈ ps.map RowA.vs, vs.length ≤ 3518437208780 ∧ ∀ v ∈ vs, v.s.size ≤ 9223372036854775807) := fun vs hvs => by
                    rw [HPS.out] at hvs
                    obtain ⟨h1, h2⟩ := pick_vals hvs
                    refine ⟨by rw [h1, HNC.out]; omega, fun v hv => ?_⟩
                    obtain ⟨u, hu, rfl⟩ := h2 v hv
                    rcases hu with rfl | ⟨y, hy, hu⟩
                    · decide
                    · rw [← HOS.out] at hy
                      exact clean_fineD ((HVL.out y hy).2 u hu)
                  have hpp := HPP.out
                  have HRI2 := hide (HO9.out.rin (by omega) HPV.out)
                  have SO : Hid (∀ (w' : World), Fut w9 w' → Calls Tryz.prog 63 #[.slice A9 ps.length c9] w' fun e w'' => ∃ (A' : Option Addr) (c' : Nat) (zs : List RowA), e = .returned (.slice A' ps.length c') ∧ zs.length = ps.length ∧ Asc lessL (zs.map RowA.vs) ∧ (zs.map RowA.vs).Perm (ps.map fun r => cleanL r.vs) ∧ OwnR w'' w'.heap.size A' ps.length c' zs ∧ Step w' w'') := fun w' hq => psort_any (w0 := w9) ps A9 c9 w' HRI2.out
                  clear PK
                  go_wp2_with (go_at_call 63; (with_reducible refine (SO.out _ inferInstance).mono ?_); rintro e w10 ⟨A10, c10, zs, rfl, hzl, hasc, hprm, ho10, hs10⟩; have HZL := hide hzl; have HASC := hide hasc; have HPRM := hide hprm; have HO10 := hide ho10; clear hzl hasc hprm ho10; clear u0 u1 u2 u3 u4 u5 u6 lu fu; have ub := HUB7.out.fut (w' := w10); obtain ⟨u0, u1, u2, u3, u4, u5, u6⟩ := At.z7 ub.at0; have lu := ub.lt; have fu := ub.free; clear ub)
                  go_end0
                  rw [← HR3.out]
                  have hz10 := HUB7.out.fut (w' := w10)
                  have hg10 := grown_setCell w10 U 2 (.slice A10 ps.length c10)
                  have hsz : w.heap.size ≤ w10.heap.size := Nat.le_trans HZ7.out (fut X7 w10).size
                  refine ⟨rfl, (HB7.out.trans (growS X7 w10 _)).trans hg10, A7, c7, zs, A10, c10, ⟨by show Own _ _ _ _ (.slice _ (o.cols).length _) _; (try rw [HNC.out]); exact (HN7.out.fut (w' := w10)).grownE hz10 hg10 (by decide), ?_, HASC.out, ?_⟩, ?_⟩
                  · rw [HZL.out]
                    exact (HO10.out.more (Nat.le_trans HZ7.out (fut X7 _).size)).grownE hz10 hg10 (by decide)
                  · have := HPRM.out
                    rw [show ps.map (fun r => cleanL r.vs) = (ps.map RowA.vs).map cleanL by simp [List.map_map, Function.comp_def], HPS.out] at this
                    exact this
                  · show Blk _ _ _ [_, .slice _ (o.cols).length _, _, _, _, _, _]
                    rw [HZL.out]
                    try rw [HNC.out]
                    exact hz10.set_ 2 _
  · have hkb : (o.kind != 9) = true := bne_iff_ne.2 hk
    have HE : Hid (R = .error 9) := by show _ = _; rw [← HR.out, readN, if_pos (show o.op.kind ≠ 9 ∨ predB o.op.ns = false ∨ o.op.agg < 0 ∨ 4 < o.op.agg from Or.inl hk)]
    clear hk YS PM
    go_enter Tryz.func75, Tryz.ntmps75
    go_wp2_with (go_at_call 122; (with_reducible refine (throw_yes _ _).mono ?_); rintro e w9 ⟨rfl, h9⟩; obtain rfl := h9.symm)
    exact ⟨rfl, by rw [HE.out]; exact ⟨rfl, Step.of⟩⟩
end Go.Proofs.YtnphokhehacfnaaGreatDoor

