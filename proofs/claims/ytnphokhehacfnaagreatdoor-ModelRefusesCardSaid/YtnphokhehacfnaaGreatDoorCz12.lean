/-
  Texts put together: Do, Db.
-/
import Derived.Test.YtnphokhehacfnaaGreatDoorCz01
import Derived.Test.YtnphokhehacfnaaGreatDoorCz04
import Derived.Test.YtnphokhehacfnaaGreatDoorCz07
import Derived.Test.YtnphokhehacfnaaGreatDoorCz09
import Derived.Test.YtnphokhehacfnaaGreatDoorCz11
namespace Go.Proofs.YtnphokhehacfnaaGreatDoor
open Go.RowKit

def pickC (xn : Nat) (vs : List Val) : Val := vs.getD xn Val.zero
/-- What a read of an aggregate answers. -/
def readA (t : Tb) (o : Opp) : Except Int Val :=
  if o.kind ≠ 9 ∨ predB o.ns = false ∨ o.agg < 0 ∨ 4 < o.agg then .error 9
  else match yesP t o.ns with
    | .error c => .error c
    | .ok l =>
      if o.cols.all (fun n => decide (0 ≤ idx (named n) t.s.cols)) = false then .error 5
      else if idx (named o.col) t.s.cols < 0 then .error 5
      else if (aggP o.agg ((takeR t.rows l).1.map (pickC (idx (named o.col) t.s.cols).toNat))).2 = 1702 then .error 4
      else if (aggP o.agg ((takeR t.rows l).1.map (pickC (idx (named o.col) t.s.cols).toNat))).2 ≠ 0 then .error 5
      else .ok (aggP o.agg ((takeR t.rows l).1.map (pickC (idx (named o.col) t.s.cols).toNat))).1
def ReadA (U : Nat) (w : World) (r : Except Int Val) (e : Ending) (w' : World) : Prop :=
  match r with
  | .error c => e = .panicked [{ v := faultM c, recovered := false }] ∧ Step w w'
  | .ok v => e = .returned (.tuple #[]) ∧ ∃ w3, Step w w3 ∧ w' = (((w3.setCell ⟨U, 3, none⟩ (.int .i64 v.kind)).setCell ⟨U, 4, none⟩ (.int .i64 v.i)).setCell ⟨U, 5, none⟩ (.bool v.b)).setCell ⟨U, 6, none⟩ (.string v.s)
theorem take_mem {vss : List (List Val)} {l : List Int} {r : List Val} (h : r ∈ (takeR vss l).1) : ∃ x ∈ vss, r = x.map clean := by
  unfold takeR at h
  split at h
  · rename_i hok
    unfold takeTo at h
    obtain ⟨k, hk, rfl⟩ := List.mem_map.1 h
    unfold takeOk at hok
    have := List.all_eq_true.1 hok k hk
    rw [Bool.and_eq_true, decide_eq_true_iff, decide_eq_true_iff] at this
    have hl : k.toNat < vss.length := by omega
    refine ⟨vss[k.toNat], List.getElem_mem hl, ?_⟩
    rw [List.getD_eq_getElem?_getD, List.getElem?_eq_getElem hl]
    rfl
  · simp at h
theorem take_lenD (vss : List (List Val)) (l : List Int) : (takeR vss l).1.length ≤ l.length := by
  unfold takeR
  split
  · unfold takeTo; simp
  · simp
theorem clean_fineD {v : Val} (h : v.s.size ≤ 9223372036854775807) : (clean v).s.size ≤ 9223372036854775807 := by
  have h2 : (clean v).s = v.s ∨ (clean v).s = .empty := by
    unfold clean
    split
    · exact .inr rfl
    · split
      · exact .inr rfl
      · split
        · exact .inl rfl
        · exact .inr rfl
  rcases h2 with e | e <;> rw [e]
  · exact h
  · decide
theorem clean_range {v : Val} (h : FineD v) : -9223372036854775808 ≤ (clean v).i ∧ (clean v).i ≤ 9223372036854775807 := by
  have h2 : (clean v).i = v.i ∨ (clean v).i = 0 := by
    unfold clean
    split
    · exact .inl rfl
    · split
      · exact .inr rfl
      · split
        · exact .inr rfl
        · exact .inr rfl
  have := h.2
  omega
def readC (a : Int) (vs : List Val) : Except Int Val := if (aggP a vs).2 = 1702 then .error 4 else if (aggP a vs).2 ≠ 0 then .error 5 else .ok (aggP a vs).1
def readB (t : Tb) (o : Opp) (l : List Int) : Except Int Val :=
  if o.cols.all (fun n => decide (0 ≤ idx (named n) t.s.cols)) = false then .error 5
  else if idx (named o.col) t.s.cols < 0 then .error 5
  else readC o.agg ((takeR t.rows l).1.map (pickC (idx (named o.col) t.s.cols).toNat))
theorem read_eq (t : Tb) (o : Opp) : readA t o = if o.kind ≠ 9 ∨ predB o.ns = false ∨ o.agg < 0 ∨ 4 < o.agg then .error 9 else match yesP t o.ns with | .error c => .error c | .ok l => readB t o l := rfl
set_option maxRecDepth 100000 in
set_option maxHeartbeats 16000000 in
theorem readAgg_any {w1 : World} (g D T O U : Nat) (t : TbA) (o : OpA) (x0 x1 x2 x3 x4 x5 x6 : Value) (w : World) (h : Doer w g D T O t o) (hu : Blk w U 59 [x0, x1, x2, x3, x4, x5, x6]) (ho : OpIn w1 o) [f1 : Fut w1 w] (hf : TbFine t) (hlen : t.rs.length ≤ 4096) (hrow : ∀ vs ∈ t.rs.map RowA.vs, vs.length = t.s.cols.length) (hfine : ∀ vs ∈ t.rs.map RowA.vs, ∀ v ∈ vs, FineD v) (hag : o.agg ≠ 0) :
    Calls Tryz.prog 75 #[.pointer (some ⟨D, 0, none⟩), .pointer (some ⟨U, 0, none⟩)] w fun e w' => ReadA U w (readA t.tb o.op) e w' := by
  have z1_ := f1.below.size
  have HD := hide h; have HU := hide hu
  have HSC := hide (h.own.r.tin hf).sch
  have HRW := hide hrow; have HFI := hide hfine
  have hcl := ho.clen; have hcc := ho.ccap
  have PM := fun (w' : World) [hq : Fut w w'] => haveI := Fut.tr f1 hq; ppred_any o.ns o.An o.cn w' ho.prd
  have YS := fun (w' : World) (hs : Fut w w') => yes_any (w1 := w1) g D T O t o w' h.fut ho (f1 := Fut.tr f1 hs) hf
  obtain ⟨R, hR⟩ : ∃ R, readA t.tb o.op = R := ⟨_, rfl⟩
  have HR := hide hR
  rw [hR]
  clear hR h hu hrow hfine
  obtain ⟨d0, d1⟩ := At.z2 (HD.out.d.fut (w' := w)).at0
  have ld := (HD.out.d.fut (w' := w)).lt
  obtain ⟨t0, t1, t2, t3, t4, t5⟩ := At.z6 (HD.out.tb.fut (w' := w)).at0
  have lt_ := (HD.out.tb.fut (w' := w)).lt
  have ft_ := (HD.out.tb.fut (w' := w)).free
  obtain ⟨o0, o1, o2, o3, o4, o5, o6, o7, o8, o9, o10, o11, o12, o13, o14, o15⟩ := At.zOp (HD.out.op.fut (w' := w)).at0
  have lo := (HD.out.op.fut (w' := w)).lt
  unfold TbA.cells at *
  by_cases hk : o.kind = 9
  · have hkb : (o.kind != 9) = false := bne_eq_false_iff_eq.2 hk
    cases hp : predB o.ns with
    | false =>
      have HE : Hid (R = .error 9) := by show _ = _; rw [← HR.out, readA, if_pos (show o.op.kind ≠ 9 ∨ predB o.op.ns = false ∨ o.op.agg < 0 ∨ 4 < o.op.agg from Or.inr (Or.inl (show predB o.op.ns = false from hp)))]
      rw [hp] at PM
      have PM := hide PM
      clear hp hk YS
      go_enter Tryz.func75, Tryz.ntmps75
      go_wp2_with (first | (go_at_call 123; (with_reducible refine (PM.out _).mono ?_); rintro e w3 ⟨rfl, hs3⟩; clear d0 d1 ld t0 t1 t2 t3 t4 t5 lt_ ft_ o0 o1 o2 o3 o4 o5 o6 o7 o8 o9 o10 o11 o12 o13 o14 o15 lo; obtain ⟨d0, d1⟩ := At.z2 (HD.out.d.fut (w' := w3)).at0; have ld := (HD.out.d.fut (w' := w3)).lt; obtain ⟨t0, t1, t2, t3, t4, t5⟩ := At.z6 (HD.out.tb.fut (w' := w3)).at0; have lt_ := (HD.out.tb.fut (w' := w3)).lt; have ft_ := (HD.out.tb.fut (w' := w3)).free; obtain ⟨o0, o1, o2, o3, o4, o5, o6, o7, o8, o9, o10, o11, o12, o13, o14, o15⟩ := At.zOp (HD.out.op.fut (w' := w3)).at0; have lo := (HD.out.op.fut (w' := w3)).lt) | (go_at_call 122; (with_reducible refine (throw_yes _ _).mono ?_); rintro e w9 ⟨rfl, h9⟩; obtain rfl := h9.symm))
      exact ⟨rfl, by rw [HE.out]; exact ⟨rfl, Step.of⟩⟩
    | true =>
      have HP := hide hp
      rw [hp] at PM
      have PM := hide PM
      clear hp
      by_cases ha : o.agg < 0
      · have HE : Hid (R = .error 9) := by show _ = _; rw [← HR.out, readA, if_pos (show o.op.kind ≠ 9 ∨ predB o.op.ns = false ∨ o.op.agg < 0 ∨ 4 < o.op.agg from Or.inr (Or.inr (Or.inl ha)))]
        have had : decide (o.agg < 0) = true := decide_eq_true ha
        clear hk YS ha
        go_enter Tryz.func75, Tryz.ntmps75
        go_wp2_with (first | (go_at_call 123; (with_reducible refine (PM.out _).mono ?_); rintro e w3 ⟨rfl, hs3⟩; clear d0 d1 ld t0 t1 t2 t3 t4 t5 lt_ ft_ o0 o1 o2 o3 o4 o5 o6 o7 o8 o9 o10 o11 o12 o13 o14 o15 lo; obtain ⟨d0, d1⟩ := At.z2 (HD.out.d.fut (w' := w3)).at0; have ld := (HD.out.d.fut (w' := w3)).lt; obtain ⟨t0, t1, t2, t3, t4, t5⟩ := At.z6 (HD.out.tb.fut (w' := w3)).at0; have lt_ := (HD.out.tb.fut (w' := w3)).lt; have ft_ := (HD.out.tb.fut (w' := w3)).free; obtain ⟨o0, o1, o2, o3, o4, o5, o6, o7, o8, o9, o10, o11, o12, o13, o14, o15⟩ := At.zOp (HD.out.op.fut (w' := w3)).at0; have lo := (HD.out.op.fut (w' := w3)).lt) | (go_at_call 122; (with_reducible refine (throw_yes _ _).mono ?_); rintro e w9 ⟨rfl, h9⟩; obtain rfl := h9.symm))
        exact ⟨rfl, by rw [HE.out]; exact ⟨rfl, Step.of⟩⟩
      · have had : decide (o.agg < 0) = false := decide_eq_false ha
        by_cases h4 : 4 < o.agg
        · have HE : Hid (R = .error 9) := by show _ = _; rw [← HR.out, readA, if_pos (show o.op.kind ≠ 9 ∨ predB o.op.ns = false ∨ o.op.agg < 0 ∨ 4 < o.op.agg from Or.inr (Or.inr (Or.inr h4)))]
          have h4d : decide (4 < o.agg) = true := decide_eq_true h4
          clear hk YS
          go_enter Tryz.func75, Tryz.ntmps75
          go_wp2_with (first | (go_at_call 123; (with_reducible refine (PM.out _).mono ?_); rintro e w3 ⟨rfl, hs3⟩; clear d0 d1 ld t0 t1 t2 t3 t4 t5 lt_ ft_ o0 o1 o2 o3 o4 o5 o6 o7 o8 o9 o10 o11 o12 o13 o14 o15 lo; obtain ⟨d0, d1⟩ := At.z2 (HD.out.d.fut (w' := w3)).at0; have ld := (HD.out.d.fut (w' := w3)).lt; obtain ⟨t0, t1, t2, t3, t4, t5⟩ := At.z6 (HD.out.tb.fut (w' := w3)).at0; have lt_ := (HD.out.tb.fut (w' := w3)).lt; have ft_ := (HD.out.tb.fut (w' := w3)).free; obtain ⟨o0, o1, o2, o3, o4, o5, o6, o7, o8, o9, o10, o11, o12, o13, o14, o15⟩ := At.zOp (HD.out.op.fut (w' := w3)).at0; have lo := (HD.out.op.fut (w' := w3)).lt) | (go_at_call 122; (with_reducible refine (throw_yes _ _).mono ?_); rintro e w9 ⟨rfl, h9⟩; obtain rfl := h9.symm))
          exact ⟨rfl, by rw [HE.out]; exact ⟨rfl, Step.of⟩⟩
        · have h4d : decide (4 < o.agg) = false := decide_eq_false h4
          have HR1 : Hid ((match yesP t.tb o.ns with
            | .error c => .error c
            | .ok l => readB t.tb o.op l) = R) := by
            show _ = _
            rw [← HR.out, read_eq, if_neg (show ¬ (o.op.kind ≠ 9 ∨ predB o.op.ns = false ∨ o.op.agg < 0 ∨ 4 < o.op.agg) by rintro (hh | hh | hh | hh); exact hh hk; (rw [show predB o.op.ns = true from HP.out] at hh; cases hh); exact ha hh; exact h4 hh)]
            rfl
          clear HR hk
          cases hy : yesP t.tb o.ns with
          | error c =>
            have HE : Hid (R = .error c) := by show _ = _; rw [← HR1.out, hy]
            rw [hy] at YS
            have YS := hide YS
            clear hy
            go_enter Tryz.func75, Tryz.ntmps75
            go_wp2_with (first | (go_at_call 123; (with_reducible refine (PM.out _).mono ?_); rintro e w3 ⟨rfl, hs3⟩; clear d0 d1 ld t0 t1 t2 t3 t4 t5 lt_ ft_ o0 o1 o2 o3 o4 o5 o6 o7 o8 o9 o10 o11 o12 o13 o14 o15 lo; obtain ⟨d0, d1⟩ := At.z2 (HD.out.d.fut (w' := w3)).at0; have ld := (HD.out.d.fut (w' := w3)).lt; obtain ⟨t0, t1, t2, t3, t4, t5⟩ := At.z6 (HD.out.tb.fut (w' := w3)).at0; have lt_ := (HD.out.tb.fut (w' := w3)).lt; have ft_ := (HD.out.tb.fut (w' := w3)).free; obtain ⟨o0, o1, o2, o3, o4, o5, o6, o7, o8, o9, o10, o11, o12, o13, o14, o15⟩ := At.zOp (HD.out.op.fut (w' := w3)).at0; have lo := (HD.out.op.fut (w' := w3)).lt) | (go_at_call 122; (with_reducible refine (throw_no _ _).mono ?_); rintro e w9 ⟨rfl, h9⟩; obtain rfl := h9.symm) | (go_at_call 124; (with_reducible refine (YS.out _ inferInstance).mono ?_); rintro e w4 ⟨rfl, hs4⟩))
            exact ⟨rfl, by rw [HE.out]; exact ⟨rfl, Step.of⟩⟩
          | ok l =>
            have HR2 : Hid (readB t.tb o.op l = R) := by show _ = _; rw [← HR1.out, hy]
            have HLL : Hid (l.length ≤ t.rs.length) := by
              show _ ≤ _
              unfold yesP at hy
              split at hy
              · cases hy
              · injection hy with hy
                rw [← hy]
                have := yesTo_bd o.ns t.s (t.rs.map RowA.vs)
                rw [List.length_map] at this
                exact this
            rw [hy] at YS
            have YS := hide YS
            clear hy HR1
            have hab : (o.agg == 0) = false := beq_eq_false_iff_ne.2 hag
            go_enter Tryz.func75, Tryz.ntmps75
            go_wp2_with (first | (go_at_call 123; (with_reducible refine (PM.out _).mono ?_); rintro e w3 ⟨rfl, hs3⟩; clear d0 d1 ld t0 t1 t2 t3 t4 t5 lt_ ft_ o0 o1 o2 o3 o4 o5 o6 o7 o8 o9 o10 o11 o12 o13 o14 o15 lo; obtain ⟨d0, d1⟩ := At.z2 (HD.out.d.fut (w' := w3)).at0; have ld := (HD.out.d.fut (w' := w3)).lt; obtain ⟨t0, t1, t2, t3, t4, t5⟩ := At.z6 (HD.out.tb.fut (w' := w3)).at0; have lt_ := (HD.out.tb.fut (w' := w3)).lt; have ft_ := (HD.out.tb.fut (w' := w3)).free; obtain ⟨o0, o1, o2, o3, o4, o5, o6, o7, o8, o9, o10, o11, o12, o13, o14, o15⟩ := At.zOp (HD.out.op.fut (w' := w3)).at0; have lo := (HD.out.op.fut (w' := w3)).lt) | (go_at_call 122; (with_reducible refine (throw_no _ _).mono ?_); rintro e w9 ⟨rfl, h9⟩; obtain rfl := h9.symm) | (go_at_call 124; (with_reducible refine (YS.out _ inferInstance).mono ?_); rintro e w4 ⟨⟨A4, c4, rfl, ho4⟩, hs4⟩; have HO4 := hide ho4; clear ho4; clear d0 d1 ld t0 t1 t2 t3 t4 t5 lt_ ft_ o0 o1 o2 o3 o4 o5 o6 o7 o8 o9 o10 o11 o12 o13 o14 o15 lo; obtain ⟨d0, d1⟩ := At.z2 (HD.out.d.fut (w' := w4)).at0; have ld := (HD.out.d.fut (w' := w4)).lt; obtain ⟨t0, t1, t2, t3, t4, t5⟩ := At.z6 (HD.out.tb.fut (w' := w4)).at0; have lt_ := (HD.out.tb.fut (w' := w4)).lt; have ft_ := (HD.out.tb.fut (w' := w4)).free; obtain ⟨o0, o1, o2, o3, o4, o5, o6, o7, o8, o9, o10, o11, o12, o13, o14, o15⟩ := At.zOp (HD.out.op.fut (w' := w4)).at0; have lo := (HD.out.op.fut (w' := w4)).lt))
            clear d0 d1 ld t0 t1 t2 t3 t4 t5 lt_ ft_ o0 o1 o2 o3 o4 o5 o6 o7 o8 o9 o10 o11 o12 o13 o14 o15 lo
            obtain ⟨wy, hwy⟩ : ∃ x : World, x = w4 := ⟨_, rfl⟩
            rw [← hwy] at hs4 HO4 ⊢
            clear hwy
            go_loopw [7, 55] (fun _ i wr => ∃ k : Nat, k ≤ o.cols.length ∧ i = .int .i64 k ∧ Hid ((o.cols.take k).all (fun n => decide (0 ≤ idx (named n) t.s.cols)) = true) ∧ Step wy wr) (fun _ i _ => o.cols.length - (intOf i).toNat)
            case atStart => exact ⟨0, Nat.zero_le _, rfl, rfl, Step.of⟩
            case round =>
              obtain ⟨k, hk, rfl, HAL, hst⟩ := hrel
              obtain ⟨wo, rfl⟩ : ∃ x : World, x = wr := ⟨_, rfl⟩
              have hzo := hst.size
              have hzy : w.heap.size ≤ wy.heap.size := (fut w wy).size
              by_cases hlt : k < o.cols.length
              · haveI f3 : Fut w1 wo := Fut.tr f1 (Fut.mk' (fut w wo))
                obtain ⟨b, off, hA, hb, hc⟩ := ho.cols.elem (w' := wo) f3 (k := k) (by simpa [strCells] using hlt)
                obtain ⟨nm, hnm⟩ : ∃ nm, o.cols[k]? = some nm := ⟨_, List.getElem?_eq_getElem hlt⟩
                have n0 := At.l1 (hc k [.string nm] (by simp [strCells, hnm]))
                simp only [Nat.mul_one] at n0
                have hkl : (k : Int) < (o.cols.length : Int) := by omega
                have hk0 : (0 : Int) ≤ (k : Int) := by omega
                have hlb : b < wo.heap.size := by omega
                obtain ⟨x, hx⟩ : ∃ x, idx (named nm) t.s.cols = x := ⟨_, rfl⟩
                have FD : Hid (∀ (w' : World), Fut w w' → Calls Tryz.prog 125 #[.agg #[.int .i64 t.s.id, .slice t.As t.s.cols.length t.cs, .int .i64 t.s.next], .string nm] w' fun e w'' => e = .returned (.int .i64 x) ∧ Step w' w'') := fun w' hq => by
                  have := ((HSC.out.below hq.below).find nm)
                  rw [hx] at this
                  exact this.mono fun e w'' h => ⟨h.1, ⟨h.2⟩⟩
                rw [hA]
                obtain ⟨d0, d1⟩ := At.z2 (HD.out.d.fut (w' := wo)).at0
                have ld := (HD.out.d.fut (w' := wo)).lt
                obtain ⟨t0, t1, t2, t3, t4, t5⟩ := At.z6 (HD.out.tb.fut (w' := wo)).at0
                have lt_ := (HD.out.tb.fut (w' := wo)).lt
                have ft_ := (HD.out.tb.fut (w' := wo)).free
                obtain ⟨o0, o1, o2, o3, o4, o5, o6, o7, o8, o9, o10, o11, o12, o13, o14, o15⟩ := At.zOp (HD.out.op.fut (w' := wo)).at0
                have lo := (HD.out.op.fut (w' := wo)).lt
                rw [hA] at o2
                have HAA := hide hA
                have HNM := hide hnm; have HX := hide hx
                clear hc hnm hx hA
                by_cases hx0 : x < 0
                · have HB : Hid (o.cols.all (fun n => decide (0 ≤ idx (named n) t.s.cols)) = false) := by
                    show _ = _
                    cases e : o.cols.all (fun n => decide (0 ≤ idx (named n) t.s.cols)) with
                    | false => rfl
                    | true =>
                      have := List.all_eq_true.1 e nm (List.mem_of_getElem? HNM.out)
                      rw [HX.out, decide_eq_true_iff] at this
                      omega
                  have HE : Hid (R = .error 5) := by show _ = _; rw [← HR2.out, readB, if_pos (show o.op.cols.all (fun n => decide (0 ≤ idx (named n) t.tb.s.cols)) = false from HB.out)]
                  have hxd : decide (x < 0) = true := decide_eq_true hx0
                  go_wp2_with (first | (go_at_call 125; (with_reducible refine (FD.out _ inferInstance).mono ?_); rintro e w5 ⟨rfl, hs5⟩) | (go_at_call 122; (with_reducible refine (throw_yes _ _).mono ?_); rintro e w9 ⟨rfl, h9⟩; obtain rfl := h9.symm))
                  exact ⟨rfl, by rw [HE.out]; exact ⟨rfl, Step.of⟩⟩
                · have HAL2 : Hid ((o.cols.take (k + 1)).all (fun n => decide (0 ≤ idx (named n) t.s.cols)) = true) := by
                    show _ = _
                    rw [List.take_add_one, HNM.out, List.all_append, HAL.out]
                    simp [HX.out]
                    omega
                  have hxd : decide (x < 0) = false := decide_eq_false hx0
                  go_wp2_with (first | (go_at_call 125; (with_reducible refine (FD.out _ inferInstance).mono ?_); rintro e w5 ⟨rfl, hs5⟩) | (go_at_call 122; (with_reducible refine (throw_no _ _).mono ?_); rintro e w9 ⟨rfl, h9⟩; obtain rfl := h9.symm))
                  go_roundw
                  case rel => exact ⟨k + 1, by omega, by go_num, HAL2.out, Step.of⟩
                  case measure => simp [intOf]; omega
              · obtain rfl : k = o.cols.length := by omega
                have HALL : Hid (o.cols.all (fun n => decide (0 ≤ idx (named n) t.s.cols)) = true) := by
                  show _ = _
                  have := HAL.out
                  rwa [List.take_length] at this
                have HR3 : Hid ((if idx (named o.col) t.s.cols < 0 then .error 5 else readC o.agg ((takeR (t.rs.map RowA.vs) l).1.map (pickC (idx (named o.col) t.s.cols).toNat))) = R) := by
                  show _ = _
                  rw [← HR2.out, readB, if_neg (show ¬ o.op.cols.all (fun n => decide (0 ≤ idx (named n) t.tb.s.cols)) = false by rw [show o.op.cols.all (fun n => decide (0 ≤ idx (named n) t.tb.s.cols)) = true from HALL.out]; simp)]
                  rfl
                have TK := hide (fun (w' : World) [hq : Fut wo w'] => haveI : Fut wy w' := Fut.tr ⟨hst.below⟩ hq; ptake_any (w0 := wo) (w1 := wy) t.rs t.Ar t.cr l A4 c4 w' ((HD.out.own.fut (w' := wo)).r.tin hf).rows (HO4.out.sl (int_fit _).len) (by have := HLL.out; omega))
                obtain ⟨x, hx⟩ : ∃ x, idx (named o.col) t.s.cols = x := ⟨_, rfl⟩
                have FC : Hid (∀ (w' : World), Fut w w' → Calls Tryz.prog 125 #[.agg #[.int .i64 t.s.id, .slice t.As t.s.cols.length t.cs, .int .i64 t.s.next], .string o.col] w' fun e w'' => e = .returned (.int .i64 x) ∧ Step w' w'') := fun w' hq => by
                  have := ((HSC.out.below hq.below).find o.col)
                  rw [hx] at this
                  exact this.mono fun e w'' h => ⟨h.1, ⟨h.2⟩⟩
                have HXB : Hid (x < (t.s.cols.length : Int)) := by show _ < _; have := (idx_bd (named o.col) t.s.cols).2; omega
                rw [hx] at HR3
                obtain ⟨d0, d1⟩ := At.z2 (HD.out.d.fut (w' := wo)).at0
                have ld := (HD.out.d.fut (w' := wo)).lt
                obtain ⟨t0, t1, t2, t3, t4, t5⟩ := At.z6 (HD.out.tb.fut (w' := wo)).at0
                have lt_ := (HD.out.tb.fut (w' := wo)).lt
                have ft_ := (HD.out.tb.fut (w' := wo)).free
                obtain ⟨o0, o1, o2, o3, o4, o5, o6, o7, o8, o9, o10, o11, o12, o13, o14, o15⟩ := At.zOp (HD.out.op.fut (w' := wo)).at0
                have lo := (HD.out.op.fut (w' := wo)).lt
                clear hx
                by_cases hx0 : x < 0
                · have HE : Hid (R = .error 5) := by show _ = _; rw [← HR3.out, if_pos hx0]
                  have hxd : decide (x < 0) = true := decide_eq_true hx0
                  go_upto_region 15 with (go_at_call 126; (with_reducible refine (TK.out _).mono ?_); rintro e w6 ⟨A6, c6, os, hos, rfl, ho6, hs6⟩; have HO6 := hide ho6; have HOS := hide hos; clear ho6 hos; clear d0 d1 ld t0 t1 t2 t3 t4 t5 lt_ ft_ o0 o1 o2 o3 o4 o5 o6 o7 o8 o9 o10 o11 o12 o13 o14 o15 lo; obtain ⟨d0, d1⟩ := At.z2 (HD.out.d.fut (w' := w6)).at0; have ld := (HD.out.d.fut (w' := w6)).lt; obtain ⟨t0, t1, t2, t3, t4, t5⟩ := At.z6 (HD.out.tb.fut (w' := w6)).at0; have lt_ := (HD.out.tb.fut (w' := w6)).lt; have ft_ := (HD.out.tb.fut (w' := w6)).free; obtain ⟨o0, o1, o2, o3, o4, o5, o6, o7, o8, o9, o10, o11, o12, o13, o14, o15⟩ := At.zOp (HD.out.op.fut (w' := w6)).at0; have lo := (HD.out.op.fut (w' := w6)).lt)
                  refine wp_region_held_drew (S := (fun w' => Step w6 w' ∧ (∀ b o, b < w6.heap.size → w'.cell? ⟨b, o, none⟩ = w6.cell? ⟨b, o, none⟩))) (by kernel_rfl) (by (try dsimp only); (first | exact ⟨hS1, hS2⟩ | exact ⟨Step.of, (bcell (fut _ _)).1⟩)) (fun hHeld => ?_)
                  refine wT 0 133 (by assumption) ?_
                  refine wT 7 140 (by assumption) ?_
                  refine wT 1 134 (by assumption) ?_
                  refine wT 8 141 (by assumption) ?_
                  refine wT 2 135 (by assumption) ?_
                  refine wT 9 142 (by assumption) ?_
                  refine wT 3 136 (by assumption) ?_
                  refine wT 10 143 (by assumption) ?_
                  refine wT 4 137 (by assumption) ?_
                  refine wT 5 138 (by assumption) ?_
                  refine wT 6 139 (by assumption) ?_
                  refine wpAnyH_ready (rs := [11]) (by kernel_rfl) (by simp) ?_
                  refine AllReadyH.cons (o := ⟨some 144, _, _, _, _, _⟩) rfl (fun K hK => ?_) AllReadyH.nil
                  obtain ⟨hS1, hS2⟩ := hHeld
                  go_simp
                  (go_at_call 125; (with_reducible refine (FC.out _ inferInstance).mono ?_); rintro e w7 ⟨rfl, hs7⟩)
                  refine hK.out _ _ (by (try dsimp only); (first | exact ⟨hS1, hS2⟩ | exact ⟨Step.of, (bcell (fut _ _)).1⟩)) (fun hHeld => ?_)
                  clear hK K
                  (try simp only [Act.put, List.setIfInBounds_toArray, List.set_cons_zero, List.set_cons_succ])
                  refine wT 12 10 (by assumption) ?_
                  refine wpAnyH_done (by kernel_rfl) ?_ _
                  go_wp2_with (go_at_call 122; (with_reducible refine (throw_yes _ _).mono ?_); rintro e w9 ⟨rfl, h9⟩; obtain rfl := h9.symm)
                  exact ⟨rfl, by rw [HE.out]; exact ⟨rfl, Step.of⟩⟩
                · have hxd : decide (x < 0) = false := decide_eq_false hx0
                  obtain ⟨xn, rfl⟩ : ∃ xn : Nat, x = (xn : Int) := ⟨x.toNat, by omega⟩
                  have HR4 : Hid (readC o.agg ((takeR (t.rs.map RowA.vs) l).1.map (pickC xn)) = R) := by show _ = _; rw [← HR3.out, if_neg hx0]; rfl
                  go_upto_region 15 with (go_at_call 126; (with_reducible refine (TK.out _).mono ?_); rintro e w6 ⟨A6, c6, os, hos, rfl, ho6, hs6⟩; have HO6 := hide ho6; have HOS := hide hos; clear ho6 hos; clear d0 d1 ld t0 t1 t2 t3 t4 t5 lt_ ft_ o0 o1 o2 o3 o4 o5 o6 o7 o8 o9 o10 o11 o12 o13 o14 o15 lo; obtain ⟨d0, d1⟩ := At.z2 (HD.out.d.fut (w' := w6)).at0; have ld := (HD.out.d.fut (w' := w6)).lt; obtain ⟨t0, t1, t2, t3, t4, t5⟩ := At.z6 (HD.out.tb.fut (w' := w6)).at0; have lt_ := (HD.out.tb.fut (w' := w6)).lt; have ft_ := (HD.out.tb.fut (w' := w6)).free; obtain ⟨o0, o1, o2, o3, o4, o5, o6, o7, o8, o9, o10, o11, o12, o13, o14, o15⟩ := At.zOp (HD.out.op.fut (w' := w6)).at0; have lo := (HD.out.op.fut (w' := w6)).lt)
                  refine wp_region_held_drew (S := (fun w' => Step w6 w' ∧ (∀ b o, b < w6.heap.size → w'.cell? ⟨b, o, none⟩ = w6.cell? ⟨b, o, none⟩))) (by kernel_rfl) (by (try dsimp only); (first | exact ⟨hS1, hS2⟩ | exact ⟨Step.of, (bcell (fut _ _)).1⟩)) (fun hHeld => ?_)
                  refine wT 0 133 (by assumption) ?_
                  refine wT 7 140 (by assumption) ?_
                  refine wT 1 134 (by assumption) ?_
                  refine wT 8 141 (by assumption) ?_
                  refine wT 2 135 (by assumption) ?_
                  refine wT 9 142 (by assumption) ?_
                  refine wT 3 136 (by assumption) ?_
                  refine wT 10 143 (by assumption) ?_
                  refine wT 4 137 (by assumption) ?_
                  refine wT 5 138 (by assumption) ?_
                  refine wT 6 139 (by assumption) ?_
                  refine wpAnyH_ready (rs := [11]) (by kernel_rfl) (by simp) ?_
                  refine AllReadyH.cons (o := ⟨some 144, _, _, _, _, _⟩) rfl (fun K hK => ?_) AllReadyH.nil
                  obtain ⟨hS1, hS2⟩ := hHeld
                  go_simp
                  (go_at_call 125; (with_reducible refine (FC.out _ inferInstance).mono ?_); rintro e w7 ⟨rfl, hs7⟩)
                  refine hK.out _ _ (by (try dsimp only); (first | exact ⟨hS1, hS2⟩ | exact ⟨Step.of, (bcell (fut _ _)).1⟩)) (fun hHeld => ?_)
                  clear hK K
                  (try simp only [Act.put, List.setIfInBounds_toArray, List.set_cons_zero, List.set_cons_succ])
                  refine wT 12 10 (by assumption) ?_
                  refine wpAnyH_done (by kernel_rfl) ?_ _
                  go_wp2_with (go_at_call 122; (with_reducible refine (throw_no _ _).mono ?_); rintro e w9 ⟨rfl, h9⟩; obtain rfl := h9.symm)
                  have HOL : Hid (os.length ≤ 4096) := by
                    show _ ≤ _
                    have h1 := take_lenD (t.rs.map RowA.vs) l
                    have h2 := congrArg List.length HOS.out
                    rw [List.length_map] at h2
                    have h3 := HLL.out
                    omega
                  have hol := HOL.out
                  have HRI := hide (HO6.out.rin (by omega) (fun vs hvs => by
                    rw [HOS.out] at hvs
                    obtain ⟨x, hx, rfl⟩ := take_mem hvs
                    refine ⟨by rw [List.length_map]; exact (hf.vals x hx).1, fun v hv => ?_⟩
                    obtain ⟨u, hu, rfl⟩ := List.mem_map.1 hv
                    exact clean_fineD ((hf.vals x hx).2 u hu)))
                  have HRL : Hid (∀ r ∈ os, r.vs.length = t.s.cols.length) := fun r hr => by
                    have hm : r.vs ∈ os.map RowA.vs := List.mem_map.2 ⟨r, hr, rfl⟩
                    rw [HOS.out] at hm
                    obtain ⟨x, hx, he⟩ := take_mem hm
                    rw [he, List.length_map]
                    exact HRW.out x hx
                  obtain ⟨wq, hwq⟩ : ∃ x : World, x = w7 := ⟨_, rfl⟩
                  rw [← hwq] at hs7 ⊢
                  clear hwq
                  clear d0 d1 ld t0 t1 t2 t3 t4 t5 lt_ ft_ o0 o1 o2 o3 o4 o5 o6 o7 o8 o9 o10 o11 o12 o13 o14 o15 lo
                  go_loopw [11, 13, 150] (fun vv _ i wr => ∃ (k : Nat) (A' : Option Addr) (c' : Nat), k ≤ os.length ∧ i = .int .i64 k ∧ vv = .slice A' k c' ∧ Own wr wq.heap.size 36 4 (.slice A' k c') ((((os.map RowA.vs).take k).map (pickC xn)).map Val.cells) ∧ Step wq wr) (fun _ _ i _ => os.length - (intOf i).toNat)
                  case atStart => exact ⟨0, none, 0, Nat.zero_le _, rfl, rfl, Own.nil_ _ _ _ _, Step.of⟩
                  case round =>
                    obtain ⟨k, A', c', hk, rfl, rfl, hown, hst⟩ := hrel
                    have HO := hide hown; clear hown
                    obtain ⟨wz, rfl⟩ : ∃ x : World, x = wr := ⟨_, rfl⟩
                    have hzz := hst.size
                    by_cases hlt : k < os.length
                    · obtain ⟨b, off, hA, hb, r, hrk, hri, q0⟩ := HRI.out.row (w' := wz) inferInstance (k := k) hlt
                      have hcr := hri.hcap; have hcrm := hri.hcapm
                      have hrl := HRL.out r (List.mem_of_getElem? hrk)
                      have hxl : xn < r.vs.length := by have := HXB.out; omega
                      obtain ⟨v, hv⟩ : ∃ v, r.vs[xn]? = some v := ⟨_, List.getElem?_eq_getElem hxl⟩
                      have HTK2 : Hid (((os.map RowA.vs).take (k + 1)).map (pickC xn) = ((os.map RowA.vs).take k).map (pickC xn) ++ [v]) := by
                        show _ = _
                        rw [List.take_add_one, show (os.map RowA.vs)[k]? = some r.vs by simp [hrk]]
                        simp [pickC, List.getD_eq_getElem?_getD, hv]
                      have HLN : Hid (((((os.map RowA.vs).take k).map (pickC xn)).map Val.cells).length = k) := by show _ = _; simp; omega
                      have hkl : (k : Int) < (os.length : Int) := by omega
                      have hk0 : (0 : Int) ≤ (k : Int) := by omega
                      have hxl2 : (xn : Int) < (r.vs.length : Int) := by omega
                      have hx00 : (0 : Int) ≤ (xn : Int) := by omega
                      have hlb : b < wz.heap.size := by have := (fut w6 wz).size; omega
                      obtain ⟨W2, hW2⟩ : ∃ W2, W2 = wz.alloc (.cells #[.slice r.A r.vs.length r.cap] 67) := ⟨_, rfl⟩
                      have SW2 : Step wz W2 := by rw [hW2]; exact Step.of
                      have HRB : Hid (Blk W2 wz.heap.size 67 [.slice r.A r.vs.length r.cap]) := by rw [hW2]; exact Blk.new wz _ 67
                      have HW2 := hide hW2
                      have hzW2 := SW2.size
                      obtain ⟨b2, off2, hA2, hb2, hc2⟩ := hri.at_.elem (w' := W2) inferInstance (k := xn) (by simpa using hxl)
                      obtain ⟨v0, v1, v2, v3⟩ := At.l4 (hc2 xn v.cells (by simp [hv]))
                      have hlb2 : b2 < W2.heap.size := by have := (fut w6 W2).size; omega
                      have g0 := At.z1 HRB.out.at0
                      have lg := HRB.out.lt
                      rw [hA2] at g0
                      rw [hA]
                      have HAA := hide hA; have HAA2 := hide hA2
                      clear hW2 hrk hA hA2 hc2 hv hrl
                      go_upto_region 21 with fail
                      rw [HW2.out.symm]
                      clear q0
                      rw [HAA2.out]
                      go_wp2_with (at_builtin; have HOW := hide ((HO.out.fut (w' := W2)).alloc (.cells #[.int .i64 v.kind, .int .i64 v.i, .bool v.b, .string v.s] 36)); have HNew := hide (SlAt.one W2 4 [.int .i64 v.kind, .int .i64 v.i, .bool v.b, .string v.s] 36); go_loud (refine wpList_append_sl rfl (.tmp 154) (.tmp 160) 65 rfl eiV4 (base := wq.heap.size) (xs := (((os.map RowA.vs).take k).map (pickC xn)).map Val.cells) rfl HOW.out (vals_fit _) (ys := [[.int .i64 v.kind, .int .i64 v.i, .bool v.b, .string v.s]]) rfl (by simp) HNew.out (vals_fit [v]) (by rw [HLN.out]; show (k + 1) * 40 ≤ _; omega) (fut wq (W2.alloc (.cells #[.int .i64 v.kind, .int .i64 v.i, .bool v.b, .string v.s] 36))).size (N := k + 1) (by rw [HLN.out]; rfl) ?_; intro A7 c7 w9 hq1 hq2 hown7 hgr7 hbel7; have H7 := hide hown7; have hs9 : Step wq w9 := ⟨(fut wq (W2.alloc (.cells #[.int .i64 v.kind, .int .i64 v.i, .bool v.b, .string v.s] 36))).trans hbel7⟩; clear hown7 hgr7 hbel7))
                      go_roundw
                      case rel => exact ⟨k + 1, A7, c7, by omega, by go_num, rfl, by rw [HTK2.out, List.map_append]; exact H7.out, hs9⟩
                      case measure => simp [intOf]; omega
                    · obtain rfl : k = os.length := by omega
                      have HVS : Hid (((os.map RowA.vs).take os.length).map (pickC xn) = (takeR (t.rs.map RowA.vs) l).1.map (pickC xn)) := by show _ = _; rw [List.take_of_length_le (by simp), HOS.out]
                      rw [HVS.out] at HO
                      have HNV : Hid (((takeR (t.rs.map RowA.vs) l).1.map (pickC xn)).length = os.length) := by show _ = _; rw [← HOS.out]; simp
                      have AG : Hid (∀ (w' : World) [Fut wz w'], Calls Tryz.prog 130 #[.int .i64 o.agg, .slice A' os.length c'] w' fun e w'' => e = .returned (.tuple #[.agg #[.int .i64 (aggP o.agg ((takeR (t.rs.map RowA.vs) l).1.map (pickC xn))).1.kind, .int .i64 (aggP o.agg ((takeR (t.rs.map RowA.vs) l).1.map (pickC xn))).1.i, .bool (aggP o.agg ((takeR (t.rs.map RowA.vs) l).1.map (pickC xn))).1.b, .string (aggP o.agg ((takeR (t.rs.map RowA.vs) l).1.map (pickC xn))).1.s], .int .i64 (aggP o.agg ((takeR (t.rs.map RowA.vs) l).1.map (pickC xn))).2]) ∧ Step w' w'') := fun w' hq => by
                        have := aggOf_any (w0 := wz) o.agg ((takeR (t.rs.map RowA.vs) l).1.map (pickC xn)) A' c' w' (HO.out.sl (vals_fit _).len) (by rw [HNV.out]; omega) (fun v hv => by
                          obtain ⟨r, hr, rfl⟩ := List.mem_map.1 hv
                          obtain ⟨x, hx, rfl⟩ := take_mem hr
                          unfold pickC
                          rw [List.getD_eq_getElem?_getD]
                          cases e : (x.map clean)[xn]? with
                          | none => exact ⟨by decide, by decide⟩
                          | some u =>
                            obtain ⟨y, hy, rfl⟩ := List.mem_map.1 (List.mem_of_getElem? e)
                            exact clean_range (HFI.out x hx y hy))
                        rw [HNV.out] at this
                        exact this
                      obtain ⟨P, hP⟩ : ∃ P, aggP o.agg ((takeR (t.rs.map RowA.vs) l).1.map (pickC xn)) = P := ⟨_, rfl⟩
                      have HR5 : Hid ((if P.2 = 1702 then .error 4 else if P.2 ≠ 0 then .error 5 else .ok P.1) = R) := by show _ = _; rw [← HR4.out, readC, hP]
                      rw [hP] at AG
                      clear hP
                      obtain ⟨d0, d1⟩ := At.z2 (HD.out.d.fut (w' := wz)).at0
                      have ld := (HD.out.d.fut (w' := wz)).lt
                      obtain ⟨t0, t1, t2, t3, t4, t5⟩ := At.z6 (HD.out.tb.fut (w' := wz)).at0
                      have lt_ := (HD.out.tb.fut (w' := wz)).lt
                      have ft_ := (HD.out.tb.fut (w' := wz)).free
                      obtain ⟨o0, o1, o2, o3, o4, o5, o6, o7, o8, o9, o10, o11, o12, o13, o14, o15⟩ := At.zOp (HD.out.op.fut (w' := wz)).at0
                      have lo := (HD.out.op.fut (w' := wz)).lt
                      by_cases e1 : P.2 = 1702
                      · have HE : Hid (R = .error 4) := by show _ = _; rw [← HR5.out, if_pos e1]
                        have eb1 : (P.2 == 1702) = true := beq_iff_eq.2 e1
                        clear e1
                        go_wp2_with (first | (go_at_call 130; (with_reducible refine (AG.out _).mono ?_); rintro e w8 ⟨rfl, hs8⟩) | (go_at_call 122; (with_reducible refine (throw_yes _ _).mono ?_); rintro e w9 ⟨rfl, h9⟩; obtain rfl := h9.symm))
                        exact ⟨rfl, by rw [HE.out]; exact ⟨rfl, Step.of⟩⟩
                      · have eb1 : (P.2 == 1702) = false := beq_eq_false_iff_ne.2 e1
                        by_cases e2 : P.2 = 0
                        · have HE : Hid (R = .ok P.1) := by show _ = _; rw [← HR5.out, if_neg e1, if_neg (by simpa using e2)]
                          have eb2 : (P.2 != 0) = false := bne_eq_false_iff_eq.2 e2
                          clear e1
                          go_upto_region 26 with (first | (go_at_call 130; (with_reducible refine (AG.out _).mono ?_); rintro e w8 ⟨rfl, hs8⟩) | (go_at_call 122; (with_reducible refine (throw_no _ _).mono ?_); rintro e w9 ⟨rfl, h9⟩; obtain rfl := h9.symm))
                          obtain ⟨X, hX⟩ : ∃ x : World, x = w8.alloc (.cells #[.int .i64 P.1.kind, .int .i64 P.1.i, .bool P.1.b, .string P.1.s] 36) := ⟨_, rfl⟩
                          have SX : Step w8 X := by rw [hX]; exact Step.of
                          have HXB2 : Hid (Blk X w8.heap.size 36 [.int .i64 P.1.kind, .int .i64 P.1.i, .bool P.1.b, .string P.1.s]) := by rw [hX]; exact Blk.new w8 _ 36
                          rw [← hX]
                          clear hX
                          obtain ⟨y0, y1, y2, y3⟩ := At.z4 HXB2.out.at0
                          have ly := HXB2.out.lt
                          have ub := HU.out.fut (w' := X)
                          obtain ⟨u0, u1, u2, u3, u4, u5, u6⟩ := At.z7 ub.at0
                          have lu := ub.lt
                          have fu := ub.free
                          clear ub
                          go_wp2_with fail
                          go_end0
                          rw [HE.out]
                          exact ⟨rfl, X, Step.of, rfl⟩
                        · have HE : Hid (R = .error 5) := by show _ = _; rw [← HR5.out, if_neg e1, if_pos e2]
                          have eb2 : (P.2 != 0) = true := bne_iff_ne.2 e2
                          clear e1 e2
                          go_wp2_with (first | (go_at_call 130; (with_reducible refine (AG.out _).mono ?_); rintro e w8 ⟨rfl, hs8⟩) | (go_at_call 122; (with_reducible refine (throw_no _ _).mono ?_); rintro e w9 ⟨rfl, h9⟩; obtain rfl := h9.symm) | (go_at_call 122; (with_reducible refine (throw_yes _ _).mono ?_); rintro e w9 ⟨rfl, h9⟩; obtain rfl := h9.symm))
                          exact ⟨rfl, by rw [HE.out]; exact ⟨rfl, Step.of⟩⟩
  · have hkb : (o.kind != 9) = true := bne_iff_ne.2 hk
    have HE : Hid (R = .error 9) := by show _ = _; rw [← HR.out, readA, if_pos (show o.op.kind ≠ 9 ∨ predB o.op.ns = false ∨ o.op.agg < 0 ∨ 4 < o.op.agg from Or.inl hk)]
    clear hk YS PM
    go_enter Tryz.func75, Tryz.ntmps75
    go_wp2_with (go_at_call 122; (with_reducible refine (throw_yes _ _).mono ?_); rintro e w9 ⟨rfl, h9⟩; obtain rfl := h9.symm)
    exact ⟨rfl, by rw [HE.out]; exact ⟨rfl, Step.of⟩⟩
end Go.Proofs.YtnphokhehacfnaaGreatDoor

namespace Go.Proofs.YtnphokhehacfnaaGreatDoor
open Go.RowKit

theorem all_dropD {α : Type} {p : α → Bool} {l : List α} {j : Nat} {x : α} (h : l[j]? = some x) : (l.drop j).all p = (p x && (l.drop (j + 1)).all p) := by
  obtain ⟨hj, rfl⟩ := List.getElem?_eq_some_iff.1 h
  rw [List.drop_eq_getElem_cons hj, List.all_cons]
theorem wholeUpto_bad {cols : List Col} {vs : List Val} {k : Nat} {c : Col} {v : Val} (hc : cols[k]? = some c) (hv : vs[k]? = some v) (h : wholeB c.kind v = false) : wholeUpto cols vs cols.length = false := by
  cases e : wholeUpto cols vs cols.length with
  | false => rfl
  | true =>
    have := wholeUpto_iff.1 e k (List.getElem?_eq_some_iff.1 hc).1 c v hc hv
    rw [h] at this
    cases this
theorem wholeUpto_succ {cols : List Col} {vs : List Val} {k : Nat} {c : Col} {v : Val} (h : wholeUpto cols vs k = true) (hc : cols[k]? = some c) (hv : vs[k]? = some v) (hw : wholeB c.kind v = true) : wholeUpto cols vs (k + 1) = true := by
  rw [wholeUpto, h, hc, hv]
  exact hw
set_option maxRecDepth 100000 in
set_option maxHeartbeats 8000000 in
theorem mmay_any {w0 : World} (t : TbA) (w : World) (h : TbIn w0 t) [f0 : Fut w0 w] :
    Calls Tryz.prog 19 #[.agg #[.int .i64 t.s.id, .slice t.As t.s.cols.length t.cs, .int .i64 t.s.next, .int .i64 t.sid, .slice t.Af t.fs.length t.cf, .slice t.Ar t.rs.length t.cr]] w fun e w' => e = .returned (.bool (tabB t.tb)) ∧ Step w w' := by
  have z0_ := f0.below.size
  obtain ⟨T, hT⟩ : ∃ T, tabB t.tb = T := ⟨_, rfl⟩
  have HT := hide hT
  rw [hT]
  clear hT
  have hvl := h.rows.hcap; have hvm := h.rows.hcapm
  have hcl := h.sch.len; have hfl := h.flds.len
  have PM : Hid (∀ w' [Fut w w'], Calls Tryz.prog 54 #[.agg #[.int .i64 t.s.id, .slice t.As t.s.cols.length t.cs, .int .i64 t.s.next]] w' fun e w'' => e = .returned (.bool (mayB t.s)) ∧ Step w' w'') := fun w' hf => haveI := Fut.tr f0 hf; pmay t.s t.As t.cs w' h.sch
  have PS : Hid (∀ w' [Fut w w'], Calls Tryz.prog 55 #[.agg #[.int .i64 t.sid, .slice t.Af t.fs.length t.cf], .agg #[.int .i64 t.s.id, .slice t.As t.s.cols.length t.cs, .int .i64 t.s.next]] w' fun e w'' => e = .returned (.bool (specB t.sid t.fs t.s)) ∧ Step w' w'') := fun w' hf => haveI := Fut.tr f0 hf; pspec_any t.sid t.fs t.Af t.cf t.s t.As t.cs w' h.flds h.sch
  obtain ⟨W1, hW⟩ : ∃ W1, W1 = w.alloc (.cells #[.int .i64 t.s.id, .slice t.As t.s.cols.length t.cs, .int .i64 t.s.next, .int .i64 t.sid, .slice t.Af t.fs.length t.cf, .slice t.Ar t.rs.length t.cr] 30) := ⟨_, rfl⟩
  have SW : Step w W1 := by rw [hW]; exact Step.of
  have HTB : Hid (Blk W1 w.heap.size 30 [.int .i64 t.s.id, .slice t.As t.s.cols.length t.cs, .int .i64 t.s.next, .int .i64 t.sid, .slice t.Af t.fs.length t.cf, .slice t.Ar t.rs.length t.cr]) := by rw [hW]; exact Blk.new w [.int .i64 t.s.id, .slice t.As t.s.cols.length t.cs, .int .i64 t.s.next, .int .i64 t.sid, .slice t.Af t.fs.length t.cf, .slice t.Ar t.rs.length t.cr] 30
  have HW := hide hW
  have hzW := SW.size
  clear hW
  cases hm : mayB t.s with
  | false =>
    obtain rfl : T = false := by rw [← HT.out]; exact tabB_no (.inl hm)
    rw [hm] at PM
    clear hm
    go_enter Tryz.func19, Tryz.ntmps19
    go_upto_region 1 with fail
    rw [← HW.out]
    obtain ⟨z0, z1, z2, z3, z4, z5⟩ := At.z6 (HTB.out.fut (w' := W1)).at0; have lz := (HTB.out.fut (w' := W1)).lt
    go_wp2_with ((go_at_call 54; (with_reducible refine (PM.out _).mono ?_); rintro e w3 ⟨rfl, hs3⟩; clear z0 z1 z2 z3 z4 z5 lz; obtain ⟨z0, z1, z2, z3, z4, z5⟩ := At.z6 (HTB.out.fut (w' := w3)).at0; have lz := (HTB.out.fut (w' := w3)).lt))
    go_ret
    exact ⟨rfl, Step.of⟩
  | true =>
    have HM := hide hm
    rw [hm] at PM
    clear hm
    cases hp : specB t.sid t.fs t.s with
    | false =>
      obtain rfl : T = false := by rw [← HT.out]; exact tabB_no (.inr (.inl hp))
      rw [hp] at PS
      clear hp
      go_enter Tryz.func19, Tryz.ntmps19
      go_upto_region 1 with fail
      rw [← HW.out]
      obtain ⟨z0, z1, z2, z3, z4, z5⟩ := At.z6 (HTB.out.fut (w' := W1)).at0; have lz := (HTB.out.fut (w' := W1)).lt
      go_wp2_with (first | (go_at_call 54; (with_reducible refine (PM.out _).mono ?_); rintro e w3 ⟨rfl, hs3⟩; clear z0 z1 z2 z3 z4 z5 lz; obtain ⟨z0, z1, z2, z3, z4, z5⟩ := At.z6 (HTB.out.fut (w' := w3)).at0; have lz := (HTB.out.fut (w' := w3)).lt) | (go_at_call 55; (with_reducible refine (PS.out _).mono ?_); rintro e w4 ⟨rfl, hs4⟩; clear z0 z1 z2 z3 z4 z5 lz; obtain ⟨z0, z1, z2, z3, z4, z5⟩ := At.z6 (HTB.out.fut (w' := w4)).at0; have lz := (HTB.out.fut (w' := w4)).lt))
      go_ret
      exact ⟨rfl, Step.of⟩
    | true =>
      have HP := hide hp
      rw [hp] at PS
      clear hp
      by_cases hlen : 4096 < t.rs.length
      · obtain rfl : T = false := by rw [← HT.out]; exact tabB_no (.inr (.inr (.inl (by simpa [TbA.tb] using hlen))))
        have hlen2 : (4096 : Int) < (t.rs.length : Int) := by omega
        clear hlen
        go_enter Tryz.func19, Tryz.ntmps19
        go_upto_region 1 with fail
        rw [← HW.out]
        obtain ⟨z0, z1, z2, z3, z4, z5⟩ := At.z6 (HTB.out.fut (w' := W1)).at0; have lz := (HTB.out.fut (w' := W1)).lt
        go_wp2_with (first | (go_at_call 54; (with_reducible refine (PM.out _).mono ?_); rintro e w3 ⟨rfl, hs3⟩; clear z0 z1 z2 z3 z4 z5 lz; obtain ⟨z0, z1, z2, z3, z4, z5⟩ := At.z6 (HTB.out.fut (w' := w3)).at0; have lz := (HTB.out.fut (w' := w3)).lt) | (go_at_call 55; (with_reducible refine (PS.out _).mono ?_); rintro e w4 ⟨rfl, hs4⟩; clear z0 z1 z2 z3 z4 z5 lz; obtain ⟨z0, z1, z2, z3, z4, z5⟩ := At.z6 (HTB.out.fut (w' := w4)).at0; have lz := (HTB.out.fut (w' := w4)).lt))
        go_ret
        exact ⟨rfl, Step.of⟩
      · have hlen2 : ¬ (4096 : Int) < (t.rs.length : Int) := by omega
        have HR : Hid ((t.rs.map RowA.vs).all (rowW t.s.cols) = T) := by
          show _ = _
          rw [← HT.out, tabB, show mayB t.tb.s = true from HM.out, show specB t.tb.sid t.tb.fs t.tb.s = true from HP.out, show decide (t.tb.rows.length ≤ 4096) = true by simp [TbA.tb]; omega]
          simp [TbA.tb]
        clear hlen
        go_enter Tryz.func19, Tryz.ntmps19
        go_upto_region 1 with fail
        rw [← HW.out]
        obtain ⟨z0, z1, z2, z3, z4, z5⟩ := At.z6 (HTB.out.fut (w' := W1)).at0; have lz := (HTB.out.fut (w' := W1)).lt
        go_wp2_with (first | (go_at_call 54; (with_reducible refine (PM.out _).mono ?_); rintro e w3 ⟨rfl, hs3⟩; clear z0 z1 z2 z3 z4 z5 lz; obtain ⟨z0, z1, z2, z3, z4, z5⟩ := At.z6 (HTB.out.fut (w' := w3)).at0; have lz := (HTB.out.fut (w' := w3)).lt) | (go_at_call 55; (with_reducible refine (PS.out _).mono ?_); rintro e w4 ⟨rfl, hs4⟩; clear z0 z1 z2 z3 z4 z5 lz; obtain ⟨z0, z1, z2, z3, z4, z5⟩ := At.z6 (HTB.out.fut (w' := w4)).at0; have lz := (HTB.out.fut (w' := w4)).lt))
        clear z0 z1 z2 z3 z4 z5 lz hlen2
        go_loopw [4, 5, 6, 28] (fun _ _ _ i wr => ∃ k : Nat, k ≤ t.rs.length ∧ i = .int .i64 k ∧ Hid (((t.rs.map RowA.vs).drop k).all (rowW t.s.cols) = T) ∧ Step W1 wr) (fun _ _ _ i _ => t.rs.length - (intOf i).toNat)
        case atStart => exact ⟨0, Nat.zero_le _, rfl, HR.out, Step.of⟩
        case round =>
          clear HR
          obtain ⟨k, hk, rfl, HR, hst⟩ := hrel
          obtain ⟨wo, rfl⟩ : ∃ x : World, x = wr := ⟨_, rfl⟩
          have hzo := hst.size
          by_cases hlt : k < t.rs.length
          · obtain ⟨b, off, hA, hb, r, hrk, hri, q0⟩ := h.rows.row (w' := wo) inferInstance (k := k) hlt
            have hcr := hri.hcap; have hcrm := hri.hcapm
            have HSTR := hide hri.strs
            have HR : Hid ((rowW t.s.cols r.vs && ((t.rs.map RowA.vs).drop (k + 1)).all (rowW t.s.cols)) = T) := by
              show _ = _
              rw [← HR.out, all_dropD (show (t.rs.map RowA.vs)[k]? = some r.vs by simp [hrk])]
            obtain ⟨RR, hRR⟩ : ∃ RR, ((t.rs.map RowA.vs).drop (k + 1)).all (rowW t.s.cols) = RR := ⟨_, rfl⟩
            rw [hRR] at HR
            have HRR := hide hRR
            clear hRR
            have hkl : (k : Int) < (t.rs.length : Int) := by omega
            have hk0 : (0 : Int) ≤ (k : Int) := by omega
            have hlb : b < wo.heap.size := by omega
            have HRA := hide hri.at_
            have tb_ := HTB.out.fut (w' := wo)
            obtain ⟨z0, z1, z2, z3, z4, z5⟩ := At.z6 tb_.at0
            have lz := tb_.lt
            obtain ⟨W2, hW2⟩ : ∃ W2, W2 = wo.alloc (.cells #[.slice r.A r.vs.length r.cap] 67) := ⟨_, rfl⟩
            have SW2 : Step wo W2 := by rw [hW2]; exact Step.of
            have HRB : Hid (Blk W2 wo.heap.size 67 [.slice r.A r.vs.length r.cap]) := by rw [hW2]; exact Blk.new wo [.slice r.A r.vs.length r.cap] 67
            have HW2 := hide hW2
            have hzW2 := SW2.size
            rw [hA] at z5
            have HAA := hide hA
            rw [hA]
            clear hW2 hrk hri tb_ hA
            by_cases hlr : r.vs.length = t.s.cols.length
            · have hnb : ((r.vs.length : Int) != (t.s.cols.length : Int)) = false := by rw [hlr]; exact bne_self_eq_false _
              have HLR := hide hlr
              have HR : Hid ((wholeUpto t.s.cols r.vs t.s.cols.length && RR) = T) := by
                show _ = _
                rw [← HR.out, rowW, hlr]
                simp
              clear hlr
              go_upto_region 6 with fail
              rw [HW2.out.symm]
              have g0 := At.z1 HRB.out.at0
              have lg := HRB.out.lt
              have tb_ := HTB.out.fut (w' := W2)
              clear z0 z1 z2 z3 z4 z5 lz
              obtain ⟨z0, z1, z2, z3, z4, z5⟩ := At.z6 tb_.at0
              have lz := tb_.lt
              clear tb_
              go_wp2_with fail
              clear z0 z1 z2 z3 z4 z5 lz g0 lg q0 hlb hnb
              go_loopw [5, 6, 44] (fun _ _ i wr => ∃ j : Nat, j ≤ t.s.cols.length ∧ i = .int .i64 j ∧ Hid (wholeUpto t.s.cols r.vs j = true) ∧ Step W2 wr) (fun _ _ i _ => t.s.cols.length - (intOf i).toNat)
              case atStart => exact ⟨0, Nat.zero_le _, rfl, rfl, Step.of⟩
              case round =>
                obtain ⟨j, hj, rfl, HU, hst2⟩ := hrel
                obtain ⟨wi, rfl⟩ : ∃ x : World, x = wr := ⟨_, rfl⟩
                have hzi := hst2.size
                by_cases hlj : j < t.s.cols.length
                · obtain ⟨b3, off3, hA3, hb3, hc3⟩ := h.sch.at_.elem (w' := wi) inferInstance (k := j) (by simpa using hlj)
                  obtain ⟨c, hc⟩ : ∃ c, t.s.cols[j]? = some c := ⟨_, List.getElem?_eq_getElem hlj⟩
                  obtain ⟨v, hv⟩ : ∃ v, r.vs[j]? = some v := ⟨_, List.getElem?_eq_getElem (by rw [HLR.out]; exact hlj)⟩
                  obtain ⟨b4, off4, hA4, hb4, hc4⟩ := HRA.out.elem (w' := wi) inferInstance (k := j) (by rw [List.length_map, HLR.out]; exact hlj)
                  obtain ⟨c0, c1, c2⟩ := At.l3 (hc3 j c.cells (by simp [hc]))
                  obtain ⟨v0, v1, v2, v3⟩ := At.l4 (hc4 j v.cells (by simp [hv]))
                  have hlb3 : b3 < wi.heap.size := by omega
                  have hlb4 : b4 < wi.heap.size := by omega
                  have hjl : (j : Int) < (t.s.cols.length : Int) := by omega
                  have hjr : (j : Int) < (r.vs.length : Int) := by rw [HLR.out]; omega
                  have hj0 : (0 : Int) ≤ (j : Int) := by omega
                  have WV := fun w' => whole_any c.kind v w' (HSTR.out v (List.mem_of_getElem? hv))
                  have HC := hide hc; have HV := hide hv
                  obtain ⟨wj, hwj⟩ : ∃ wj, wj = wi.alloc (.cells #[.int .i64 c.id, .string c.name, .int .i64 c.kind] 90) := ⟨_, rfl⟩
                  have SW3 : Step wi wj := by rw [hwj]; exact Step.of
                  have HCB : Hid (Blk wj wi.heap.size 90 [.int .i64 c.id, .string c.name, .int .i64 c.kind]) := by rw [hwj]; exact Blk.new wi [.int .i64 c.id, .string c.name, .int .i64 c.kind] 90
                  have HWJ := hide hwj
                  have hzj := SW3.size
                  have g0 := At.z1 (HRB.out.fut (w' := wj)).at0
                  have lg := (HRB.out.fut (w' := wj)).lt
                  rw [hA4] at g0
                  have HA3 := hide hA3; have HA4 := hide hA4
                  rw [hA3]
                  have v0' : wj.cell? ⟨b4, off4 + j * 4, none⟩ = some (.int .i64 v.kind) := by rw [(bcell SW3.below).1 b4 _ hlb4]; exact v0
                  have v1' : wj.cell? ⟨b4, off4 + j * 4 + 1, none⟩ = some (.int .i64 v.i) := by rw [(bcell SW3.below).1 b4 _ hlb4]; exact v1
                  have v2' : wj.cell? ⟨b4, off4 + j * 4 + 2, none⟩ = some (.bool v.b) := by rw [(bcell SW3.below).1 b4 _ hlb4]; exact v2
                  have v3' : wj.cell? ⟨b4, off4 + j * 4 + 3, none⟩ = some (.string v.s) := by rw [(bcell SW3.below).1 b4 _ hlb4]; exact v3
                  have hlb5 : b4 < wj.heap.size := by omega
                  obtain ⟨x0, x1, x2⟩ := At.z3 HCB.out.at0
                  have lx := HCB.out.lt
                  clear hc3 hc4 hc hv hwj hA3 hA4 v0 v1 v2 v3
                  cases hw : wholeB c.kind v with
                  | false =>
                    obtain rfl : T = false := by rw [← HR.out, wholeUpto_bad HC.out HV.out hw]; rfl
                    rw [hw] at WV
                    have WV := hide WV
                    clear hw
                    go_upto_region 11 with fail
                    rw [HWJ.out.symm]
                    refine wp_region_held_drew (S := (fun w' => Step wj w' ∧ (∀ b o, b < wj.heap.size → w'.cell? ⟨b, o, none⟩ = wj.cell? ⟨b, o, none⟩))) (by kernel_rfl) (by (try dsimp only); (first | exact ⟨hS1, hS2⟩ | exact ⟨Step.of, (bcell (fut _ _)).1⟩)) (fun hHeld => ?_)
                    refine wT 0 49 (by assumption) ?_
                    refine wT 2 51 (by assumption) ?_
                    refine wT 4 53 (by assumption) ?_
                    refine wT 1 50 (by assumption) ?_
                    refine wT 3 52 (by assumption) ?_
                    refine wT 5 54 (by assumption) ?_
                    refine wT 6 55 (by assumption) ?_
                    refine wpAnyH_ready (rs := [7]) (by kernel_rfl) (by simp) ?_
                    refine AllReadyH.cons (o := ⟨some 56, _, _, _, _, _⟩) rfl (fun K hK => ?_) AllReadyH.nil
                    obtain ⟨hS1, hS2⟩ := hHeld
                    go_simp
                    (go_at_call 56; (with_reducible refine (WV.out _).mono ?_); rintro e w6 ⟨rfl, hs6⟩)
                    refine hK.out _ _ (by (try dsimp only); (first | exact ⟨hS1, hS2⟩ | exact ⟨Step.of, (bcell (fut _ _)).1⟩)) (fun hHeld => ?_)
                    clear hK K
                    (try simp only [Act.put, List.setIfInBounds_toArray, List.set_cons_zero, List.set_cons_succ])
                    refine wT 8 57 (by assumption) ?_
                    refine wpAnyH_done (by kernel_rfl) ?_ _
                    go_wp2_with fail
                    go_ret
                    exact ⟨rfl, Step.of⟩
                  | true =>
                    have HU2 := hide (wholeUpto_succ HU.out HC.out HV.out hw)
                    rw [hw] at WV
                    have WV := hide WV
                    clear hw
                    go_upto_region 11 with fail
                    rw [HWJ.out.symm]
                    refine wp_region_held_drew (S := (fun w' => Step wj w' ∧ (∀ b o, b < wj.heap.size → w'.cell? ⟨b, o, none⟩ = wj.cell? ⟨b, o, none⟩))) (by kernel_rfl) (by (try dsimp only); (first | exact ⟨hS1, hS2⟩ | exact ⟨Step.of, (bcell (fut _ _)).1⟩)) (fun hHeld => ?_)
                    refine wT 0 49 (by assumption) ?_
                    refine wT 2 51 (by assumption) ?_
                    refine wT 4 53 (by assumption) ?_
                    refine wT 1 50 (by assumption) ?_
                    refine wT 3 52 (by assumption) ?_
                    refine wT 5 54 (by assumption) ?_
                    refine wT 6 55 (by assumption) ?_
                    refine wpAnyH_ready (rs := [7]) (by kernel_rfl) (by simp) ?_
                    refine AllReadyH.cons (o := ⟨some 56, _, _, _, _, _⟩) rfl (fun K hK => ?_) AllReadyH.nil
                    obtain ⟨hS1, hS2⟩ := hHeld
                    go_simp
                    (go_at_call 56; (with_reducible refine (WV.out _).mono ?_); rintro e w6 ⟨rfl, hs6⟩)
                    refine hK.out _ _ (by (try dsimp only); (first | exact ⟨hS1, hS2⟩ | exact ⟨Step.of, (bcell (fut _ _)).1⟩)) (fun hHeld => ?_)
                    clear hK K
                    (try simp only [Act.put, List.setIfInBounds_toArray, List.set_cons_zero, List.set_cons_succ])
                    refine wT 8 57 (by assumption) ?_
                    refine wpAnyH_done (by kernel_rfl) ?_ _
                    go_wp2_with fail
                    go_roundw
                    case rel => exact ⟨j + 1, by omega, by go_num, HU2.out, Step.of⟩
                    case measure => simp [intOf]; omega
                · obtain rfl : j = t.s.cols.length := by omega
                  have HR2 : Hid (((t.rs.map RowA.vs).drop (k + 1)).all (rowW t.s.cols) = T) := by
                    show _ = _
                    rw [HRR.out, ← HR.out, HU.out]
                    rfl
                  go_wp2_with fail
                  go_roundw
                  case rel => exact ⟨k + 1, by omega, by go_num, HR2.out, Step.of⟩
                  case measure => simp [intOf]; omega
            · have hnb : ((r.vs.length : Int) != (t.s.cols.length : Int)) = true := by rw [bne_iff_ne]; omega
              obtain rfl : T = false := by
                rw [← HR.out, rowW, beq_eq_false_iff_ne.2 hlr]
                rfl
              clear hlr
              go_upto_region 6 with fail
              rw [HW2.out.symm]
              have g0 := At.z1 HRB.out.at0
              have lg := HRB.out.lt
              have tb_ := HTB.out.fut (w' := W2)
              clear z0 z1 z2 z3 z4 z5 lz
              obtain ⟨z0, z1, z2, z3, z4, z5⟩ := At.z6 tb_.at0
              have lz := tb_.lt
              clear tb_
              go_wp2_with fail
              go_ret
              exact ⟨rfl, Step.of⟩
          · obtain rfl : k = t.rs.length := by omega
            obtain rfl : T = true := by rw [← HR.out, List.drop_of_length_le (by simp)]; rfl
            go_wp2_with fail
            go_ret
            exact ⟨rfl, Step.of⟩
end Go.Proofs.YtnphokhehacfnaaGreatDoor

