/-
  Texts put together: De, Df, Dk.
-/
import Derived.Test.YtnphokhehacfnaaGreatDoorPz00
import Derived.Test.YtnphokhehacfnaaGreatDoorPz05
import Derived.Test.YtnphokhehacfnaaGreatDoorPz06
namespace Go.Proofs.YtnphokhehacfnaaGreatDoor
open Go.RowKit

/-- The places a predicate takes, or a thrown code. -/
def YesR (w : World) (r : Except Int (List Int)) (e : Ending) (w' : World) : Prop :=
  match r with
  | .error c => e = .panicked [{ v := faultM c, recovered := false }]
  | .ok l => ∃ (A' : Option Addr) (c' : Nat), e = .returned (.slice A' l.length c') ∧ Own w' w.heap.size 3 1 (.slice A' l.length c') (intCells l)
set_option maxRecDepth 100000 in
set_option maxHeartbeats 8000000 in
theorem yes_any {w1 : World} (g D T O : Nat) (t : TbA) (o : OpA) (w : World) (h : Doer w g D T O t o) (ho : OpIn w1 o) [f1 : Fut w1 w] (hf : TbFine t) :
    Calls Tryz.prog 124 #[.pointer (some ⟨D, 0, none⟩)] w fun e w' => YesR w (yesP t.tb o.ns) e w' ∧ Step w w' := by
  have hin := h.own.r.tin hf
  have CK := fun w' [Fut w1 w'] [Fut w w'] => pcheck_any o.ns o.An o.cn t.s t.As t.cs w' ho.prd hin.sch
  have SR := fun w' [Fut w1 w'] [Fut w w'] => pselRows_any o.ns o.An o.cn t.s t.As t.cs t.rs t.Ar t.cr w' ho.prd hin.sch hin.rows
  unfold Sch.val at CK SR
  have HD := hide h
  obtain ⟨R, hR⟩ : ∃ R, yesP t.tb o.ns = R := ⟨_, rfl⟩
  have HR := hide hR
  rw [hR]
  clear hR h hin
  obtain ⟨d0, d1⟩ := At.z2 (HD.out.d.fut (w' := w)).at0
  have ld := (HD.out.d.fut (w' := w)).lt
  obtain ⟨t0, t1, t2, t3, t4, t5⟩ := At.z6 (HD.out.tb.fut (w' := w)).at0
  have lt_ := (HD.out.tb.fut (w' := w)).lt
  have ft_ := (HD.out.tb.fut (w' := w)).free
  obtain ⟨o0, o1, o2, o3, o4, o5, o6, o7, o8, o9, o10, o11, o12, o13, o14, o15⟩ := At.zOp (HD.out.op.fut (w' := w)).at0
  have lo := (HD.out.op.fut (w' := w)).lt
  unfold TbA.cells at *
  by_cases hc : checkE o.ns t.s = 0
  · have HY : Hid (R = .ok (selR o.ns t.s (t.rs.map RowA.vs)).1) := by show _ = _; rw [← HR.out, yesP, if_neg (by show ¬ checkE o.ns t.s ≠ 0; omega)]; rfl
    rw [hc] at CK
    have CK := hide CK; have SR := hide SR
    clear hc
    go_enter Tryz.func124, Tryz.ntmps124
    go_upto_region 1 with fail
    refine wp_region_held_drew (S := (fun w' => Step w w' ∧ (∀ b o, b < w.heap.size → w'.cell? ⟨b, o, none⟩ = w.cell? ⟨b, o, none⟩))) (by kernel_rfl) (by (try dsimp only); (first | exact ⟨hS1, hS2⟩ | exact ⟨Step.of, (bcell (fut _ _)).1⟩)) (fun hHeld => ?_)
    refine wT 0 5 (by assumption) ?_
    refine wT 7 12 (by assumption) ?_
    refine wT 1 6 (by assumption) ?_
    refine wT 8 13 (by assumption) ?_
    refine wT 2 7 (by assumption) ?_
    refine wT 9 14 (by assumption) ?_
    refine wT 3 8 (by assumption) ?_
    refine wT 10 15 (by assumption) ?_
    refine wT 4 9 (by assumption) ?_
    refine wT 11 16 (by assumption) ?_
    refine wT 5 10 (by assumption) ?_
    refine wT 12 17 (by assumption) ?_
    refine wT 6 11 (by assumption) ?_
    refine wT 13 18 (by assumption) ?_
    refine wpAnyH_ready (rs := [14]) (by kernel_rfl) (by simp) ?_
    refine AllReadyH.cons (o := ⟨some 19, _, _, _, _, _⟩) rfl (fun K hK => ?_) AllReadyH.nil
    obtain ⟨hS1, hS2⟩ := hHeld
    go_simp
    (go_at_call 158; (with_reducible refine (CK.out _).mono ?_); rintro e w5 ⟨rfl, hs5⟩)
    refine hK.out _ _ (by (try dsimp only); (first | exact ⟨hS1, hS2⟩ | exact ⟨Step.of, (bcell (fut _ _)).1⟩)) (fun hHeld => ?_)
    clear hK K
    (try simp only [Act.put, List.setIfInBounds_toArray, List.set_cons_zero, List.set_cons_succ])
    refine wT 15 20 (by assumption) ?_
    refine wpAnyH_ready (rs := [16]) (by kernel_rfl) (by simp) ?_
    refine AllReadyH.cons (o := ⟨some 21, _, _, _, _, _⟩) rfl (fun K hK => ?_) AllReadyH.nil
    obtain ⟨hS1, hS2⟩ := hHeld
    go_simp
    (go_at_call 122; (with_reducible refine (throw_no _ _).mono ?_); rintro e w9 ⟨rfl, h9⟩; obtain rfl := h9.symm)
    refine hK.out _ _ (by (try dsimp only); (first | exact ⟨hS1, hS2⟩ | exact ⟨Step.of, (bcell (fut _ _)).1⟩)) (fun hHeld => ?_)
    clear hK K
    (try simp only [Act.put, List.setIfInBounds_toArray, List.set_cons_zero, List.set_cons_succ])
    refine wpAnyH_done (by kernel_rfl) ?_ _
    clear d0 d1 ld t0 t1 t2 t3 t4 t5 lt_ ft_ o0 o1 o2 o3 o4 o5 o6 o7 o8 o9 o10 o11 o12 o13 o14 o15 lo
    obtain ⟨wq, hwq⟩ : ∃ x : World, x = w5 := ⟨_, rfl⟩
    rw [← hwq] at hs5 ⊢
    clear hwq
    go_upto_region 2 with fail
    obtain ⟨d0, d1⟩ := At.z2 (HD.out.d.fut (w' := wq)).at0
    have ld := (HD.out.d.fut (w' := wq)).lt
    obtain ⟨t0, t1, t2, t3, t4, t5⟩ := At.z6 (HD.out.tb.fut (w' := wq)).at0
    have lt_ := (HD.out.tb.fut (w' := wq)).lt
    have ft_ := (HD.out.tb.fut (w' := wq)).free
    obtain ⟨o0, o1, o2, o3, o4, o5, o6, o7, o8, o9, o10, o11, o12, o13, o14, o15⟩ := At.zOp (HD.out.op.fut (w' := wq)).at0
    have lo := (HD.out.op.fut (w' := wq)).lt
    refine wp_region_held_drew (S := (fun w' => Step wq w' ∧ (∀ b o, b < wq.heap.size → w'.cell? ⟨b, o, none⟩ = wq.cell? ⟨b, o, none⟩))) (by kernel_rfl) (by (try dsimp only); (first | exact ⟨hS1, hS2⟩ | exact ⟨Step.of, (bcell (fut _ _)).1⟩)) (fun hHeld => ?_)
    refine wT 0 23 (by assumption) ?_
    refine wT 7 30 (by assumption) ?_
    refine wT 14 37 (by assumption) ?_
    refine wT 1 24 (by assumption) ?_
    refine wT 8 31 (by assumption) ?_
    refine wT 15 38 (by assumption) ?_
    refine wT 2 25 (by assumption) ?_
    refine wT 9 32 (by assumption) ?_
    refine wT 16 39 (by assumption) ?_
    refine wT 3 26 (by assumption) ?_
    refine wT 10 33 (by assumption) ?_
    refine wT 17 40 (by assumption) ?_
    refine wT 4 27 (by assumption) ?_
    refine wT 11 34 (by assumption) ?_
    refine wT 18 41 (by assumption) ?_
    refine wT 5 28 (by assumption) ?_
    refine wT 12 35 (by assumption) ?_
    refine wT 19 42 (by assumption) ?_
    refine wT 6 29 (by assumption) ?_
    refine wT 13 36 (by assumption) ?_
    refine wT 20 43 (by assumption) ?_
    refine wpAnyH_ready (rs := [21]) (by kernel_rfl) (by simp) ?_
    refine AllReadyH.cons (o := ⟨some 44, _, _, _, _, _⟩) rfl (fun K hK => ?_) AllReadyH.nil
    obtain ⟨hS1, hS2⟩ := hHeld
    go_simp
    (go_at_call 159; (with_reducible refine (SR.out _).mono ?_); rintro e w6 ⟨A6, c6, rfl, ho6, hs6⟩; have HO6 := hide ho6; clear ho6)
    refine hK.out _ _ (by (try dsimp only); (first | exact ⟨hS1, hS2⟩ | exact ⟨Step.of, (bcell (fut _ _)).1⟩)) (fun hHeld => ?_)
    clear hK K
    (try simp only [Act.put, List.setIfInBounds_toArray, List.set_cons_zero, List.set_cons_succ])
    refine wT 22 22 (by assumption) ?_
    refine wT 23 45 (by assumption) ?_
    refine wT 24 46 (by assumption) ?_
    refine wT 25 3 (by assumption) ?_
    refine wT 26 4 (by assumption) ?_
    refine wpAnyH_done (by kernel_rfl) ?_ _
    go_wp2_with fail
    go_ret
    exact ⟨by rw [HY.out]; exact ⟨A6, c6, rfl, HO6.out.more (fut w wq).size⟩, Step.of⟩
  · have HY : Hid (R = .error 5) := by show _ = _; rw [← HR.out, yesP, if_pos (by show checkE o.ns t.s ≠ 0; omega)]
    have hcb : (checkE o.ns t.s != 0) = true := bne_iff_ne.2 hc
    have CK := hide CK
    clear hc SR
    go_enter Tryz.func124, Tryz.ntmps124
    go_upto_region 1 with fail
    refine wp_region_held_drew (S := (fun w' => Step w w' ∧ (∀ b o, b < w.heap.size → w'.cell? ⟨b, o, none⟩ = w.cell? ⟨b, o, none⟩))) (by kernel_rfl) (by (try dsimp only); (first | exact ⟨hS1, hS2⟩ | exact ⟨Step.of, (bcell (fut _ _)).1⟩)) (fun hHeld => ?_)
    refine wT 0 5 (by assumption) ?_
    refine wT 7 12 (by assumption) ?_
    refine wT 1 6 (by assumption) ?_
    refine wT 8 13 (by assumption) ?_
    refine wT 2 7 (by assumption) ?_
    refine wT 9 14 (by assumption) ?_
    refine wT 3 8 (by assumption) ?_
    refine wT 10 15 (by assumption) ?_
    refine wT 4 9 (by assumption) ?_
    refine wT 11 16 (by assumption) ?_
    refine wT 5 10 (by assumption) ?_
    refine wT 12 17 (by assumption) ?_
    refine wT 6 11 (by assumption) ?_
    refine wT 13 18 (by assumption) ?_
    refine wpAnyH_ready (rs := [14]) (by kernel_rfl) (by simp) ?_
    refine AllReadyH.cons (o := ⟨some 19, _, _, _, _, _⟩) rfl (fun K hK => ?_) AllReadyH.nil
    obtain ⟨hS1, hS2⟩ := hHeld
    go_simp
    (go_at_call 158; (with_reducible refine (CK.out _).mono ?_); rintro e w5 ⟨rfl, hs5⟩)
    refine hK.out _ _ (by (try dsimp only); (first | exact ⟨hS1, hS2⟩ | exact ⟨Step.of, (bcell (fut _ _)).1⟩)) (fun hHeld => ?_)
    clear hK K
    (try simp only [Act.put, List.setIfInBounds_toArray, List.set_cons_zero, List.set_cons_succ])
    refine wT 15 20 (by assumption) ?_
    refine wpAnyH_ready (rs := [16]) (by kernel_rfl) (by simp) ?_
    refine AllReadyH.cons (o := ⟨some 21, _, _, _, _, _⟩) rfl (fun K hK => ?_) AllReadyH.nil
    obtain ⟨hS1, hS2⟩ := hHeld
    go_simp
    (go_at_call 122; (with_reducible refine (throw_yes _ _).mono ?_); rintro e w9 ⟨rfl, h9⟩; obtain rfl := h9.symm)
    exact ⟨rfl, by rw [HY.out]; rfl, Step.of⟩
end Go.Proofs.YtnphokhehacfnaaGreatDoor

namespace Go.Proofs.YtnphokhehacfnaaGreatDoor
open Go.RowKit

theorem TbOwn.setT {w : World} {g T : Nat} {t : TbA} {cs : List Value} (h : TbOwn w g t) (hb : Blk w T 30 cs) (i : Nat) (u : Value) : TbOwn (w.setCell ⟨T, i, none⟩ u) g t :=
  ⟨h.cols.set_other hb (by decide) i u, h.ccap, h.flds.set_other hb (by decide) i u, ⟨⟨h.rows.rows.out.set_other hb (by decide) i u, fun z hz => (h.rows.rows.rows z hz).set_other hb (by decide) i u⟩, h.rows.diff⟩⟩
theorem TbOwnR.setT {w : World} {g T : Nat} {t : TbA} {cs : List Value} (h : TbOwnR w g t) (hb : Blk w T 30 cs) (i : Nat) (u : Value) : TbOwnR (w.setCell ⟨T, i, none⟩ u) g t :=
  ⟨h.cols.set_other hb (by decide) i u, h.flds.set_other hb (by decide) i u, ⟨h.rows.out.set_other hb (by decide) i u, fun z hz => (h.rows.rows z hz).set_other hb (by decide) i u⟩⟩
theorem Mt.drew {g T : Nat} {w w' : World} (h : Mt g T w w') : Mt g T w w'.drew := ⟨h.below.drew, fun b e cur h1 h2 h3 hb => (h.keep b e cur h1 h2 h3 hb).drew⟩
def set3 (w : World) (b : Nat) (x y z : Value) : World := ((w.setCell ⟨b, 0, none⟩ x).setCell ⟨b, 1, none⟩ y).setCell ⟨b, 2, none⟩ z
theorem yesTo_bd (ns : List Nod) (s : Sch) (vss : List (List Val)) : (selR ns s vss).1.length ≤ vss.length := by
  unfold selR
  split
  · simp
  · split
    · exact yesTo_len ns s vss _
    · simp
end Go.Proofs.YtnphokhehacfnaaGreatDoor

namespace Go.Proofs.YtnphokhehacfnaaGreatDoor
open Go.RowKit

set_option maxHeartbeats 4000000 in
theorem indexFuncVal_any {w0 : World} (f : FuncId) (caps : Array Value) (p : Val → Bool) (A : Option Addr) (cap : Nat) (l : List Val) (w : World)
    (hB : l.length ≤ 4611686018427387904) (hat : SlAt w0 w0.heap.size 4 A (l.map Val.cells)) [hf0 : Fut w0 w]
    (hcall : ∀ args w, (callFunc f args).run Tryz.prog w = .ok (.enter f args) w)
    (hf : ∀ c ∈ l, ∀ w' [Fut w w'], Calls Tryz.prog f (#[.agg #[.int .i64 c.kind, .int .i64 c.i, .bool c.b, .string c.s]] ++ caps) w' fun e w'' => e = .returned (.bool (p c)) ∧ Step w' w'') :
    Calls Tryz.prog 166 #[.slice A l.length cap, .func (.func f) #[] caps] w fun e w' =>
      e = .returned (.int .i64 (idx p l)) ∧ Step w w' := by
  have HF := Lib.hid hf; clear hf
  have hz := hf0.below.size
  go_enter Tryz.func166, Tryz.ntmps166
  go_wp2
  go_loopw [8] (fun i wr => ∃ k : Nat, k ≤ l.length ∧ i = .int .i64 k ∧ k ≤ l.findIdx p ∧ Step w wr) (fun i _ => l.length - (intOf i).toNat)
  case atStart => exact ⟨0, Nat.zero_le _, rfl, Nat.zero_le _, Step.of⟩
  case round =>
    obtain ⟨k, hk, rfl, hfi, hst⟩ := hrel
    obtain ⟨wo, rfl⟩ : ∃ x : World, x = wr := ⟨_, rfl⟩
    have hzo := hst.size
    by_cases hlt : k < l.length
    · obtain ⟨b, off, rfl, hb, hc⟩ := hat.elem (w' := wo) inferInstance (k := k) (by simpa using hlt)
      have hck := hc k l[k].cells (by simp [hlt])
      obtain ⟨h0, h1, h2, h3_⟩ := At.l4 hck
      have hlb : b < wo.heap.size := by omega
      have HC := HF.out l[k] (List.getElem_mem hlt) wo
      have HC' := Lib.hid HC; clear HC hc hck
      cases hp : p l[k] with
      | true =>
        have Hp := Lib.hid hp; clear hp
        go_wp2_with (refine HC'.out.mono ?_; rintro e w' ⟨rfl, hs⟩; rw [Hp.out])
        go_ret
        have e : l.findIdx p = k := fi_hit p l k hlt hfi Hp.out
        exact ⟨ret_int (by simp [idx, e, hlt]), Step.of⟩
      | false =>
        have Hp := Lib.hid hp; clear hp
        go_wp2_with (refine HC'.out.mono ?_; rintro e w' ⟨rfl, hs⟩; rw [Hp.out])
        go_roundw
        case rel => exact ⟨k + 1, by omega, by go_num, fi_miss p l k hlt hfi Hp.out, Step.of⟩
        case measure => simp [intOf]; omega
    · go_wp2_with fail
      go_ret
      exact ⟨ret_int (by rw [idx, if_neg (by omega)]), Step.of⟩
theorem containsFuncVal_any {w0 : World} (f : FuncId) (caps : Array Value) (p : Val → Bool) (A : Option Addr) (cap : Nat) (l : List Val) (w : World)
    (hB : l.length ≤ 4611686018427387904) (hat : SlAt w0 w0.heap.size 4 A (l.map Val.cells)) [hf0 : Fut w0 w]
    (hcall : ∀ args w, (callFunc f args).run Tryz.prog w = .ok (.enter f args) w)
    (hf : ∀ c ∈ l, ∀ w' [Fut w w'], Calls Tryz.prog f (#[.agg #[.int .i64 c.kind, .int .i64 c.i, .bool c.b, .string c.s]] ++ caps) w' fun e w'' => e = .returned (.bool (p c)) ∧ Step w' w'') :
    Calls Tryz.prog 136 #[.slice A l.length cap, .func (.func f) #[] caps] w fun e w' =>
      e = .returned (.bool (l.any p)) ∧ Step w w' := by
  have C := hide (indexFuncVal_any f caps p A cap l w hB hat hcall hf)
  have HA := hide (idx_any p l)
  clear hf hcall hat
  rw [← HA.out]
  clear HA
  obtain ⟨r, hr⟩ : ∃ r, idx p l = r := ⟨_, rfl⟩
  rw [hr] at C
  rw [hr]
  clear hr
  go_enter Tryz.func136, Tryz.ntmps136
  go_wp2_with (refine C.out.mono ?_; rintro e w' ⟨rfl, hs⟩)
  go_ret
  exact ⟨rfl, Step.of⟩

theorem idx_ints {x : Int} {l : List Int} : (0 ≤ idx (fun y => x == y) l) ↔ l.contains x = true := by
  constructor
  · intro h
    obtain ⟨h1, h2⟩ := idx_yes h
    have := List.findIdx_getElem (w := h2)
    rw [beq_iff_eq] at this
    rw [List.contains_iff_mem, this]
    exact List.getElem_mem h2
  · intro h
    rw [List.contains_iff_mem] at h
    have hl : l.findIdx (fun y => x == y) < l.length := List.findIdx_lt_length_of_exists ⟨x, h, by simp⟩
    rw [idx, if_pos hl]
    omega
set_option maxRecDepth 100000 in
set_option maxHeartbeats 4000000 in
theorem indexInt_any {w0 : World} (A : Option Addr) (cap : Nat) (l : List Int) (x : Int) (w : World) (hB : l.length ≤ 4611686018427387904) (hat : SlAt w0 w0.heap.size 1 A (intCells l)) [hf0 : Fut w0 w] :
    Calls Tryz.prog 168 #[.slice A l.length cap, .int .i64 x] w fun e w' => e = .returned (.int .i64 (idx (fun y => x == y) l)) ∧ Step w w' := by
  have hz := hf0.below.size
  go_enter Tryz.func168, Tryz.ntmps168
  go_wp2
  go_loopw [5, 8] (fun _ i wr => ∃ k : Nat, k ≤ l.length ∧ i = .int .i64 k ∧ k ≤ l.findIdx (fun y => x == y) ∧ Step w wr) (fun _ i _ => l.length - (intOf i).toNat)
  case atStart => exact ⟨0, Nat.zero_le _, rfl, Nat.zero_le _, Step.of⟩
  case round =>
    obtain ⟨k, hk, rfl, hfi, hst⟩ := hrel
    obtain ⟨wo, rfl⟩ : ∃ x : World, x = wr := ⟨_, rfl⟩
    have hzo := hst.size
    by_cases hlt : k < l.length
    · obtain ⟨b, off, rfl, hb, hc⟩ := hat.elem (w' := wo) inferInstance (k := k) (by rw [intCells_len]; exact hlt)
      have h0 := At.l1 (hc k [.int .i64 l[k]] (by simp [intCells, hlt]))
      simp only [Nat.mul_one] at h0
      have hlb : b < wo.heap.size := by omega
      obtain ⟨y, hy⟩ : ∃ y, l[k] = y := ⟨_, rfl⟩
      have HY := hide hy
      rw [hy] at h0
      clear hc hy
      by_cases hxy : x = y
      · have hp : (x == y) = true := beq_iff_eq.2 hxy
        have HP := hide hp
        clear hxy
        go_wp2_with fail
        go_ret
        have e : l.findIdx (fun y => x == y) = k := fi_hit _ l k hlt hfi (by rw [HY.out]; exact HP.out)
        exact ⟨ret_int (by rw [idx, e, if_pos hlt]), Step.of⟩
      · have hp : (x == y) = false := beq_eq_false_iff_ne.2 hxy
        have HP := hide hp
        clear hxy
        go_wp2_with fail
        go_roundw
        case rel => exact ⟨k + 1, by omega, by go_num, fi_miss _ l k hlt hfi (by rw [HY.out]; exact HP.out), Step.of⟩
        case measure => simp [intOf]; omega
    · go_wp2_with fail
      go_ret
      exact ⟨ret_int (by rw [idx, if_neg (by omega)]), Step.of⟩
theorem containsInt_any {w0 : World} (A : Option Addr) (cap : Nat) (l : List Int) (x : Int) (w : World) (hB : l.length ≤ 4611686018427387904) (hat : SlAt w0 w0.heap.size 1 A (intCells l)) [hf0 : Fut w0 w] :
    Calls Tryz.prog 139 #[.slice A l.length cap, .int .i64 x] w fun e w' => e = .returned (.bool (l.contains x)) ∧ Step w w' := by
  have C := hide (indexInt_any A cap l x w hB hat)
  obtain ⟨r, hr⟩ : ∃ r, idx (fun y => x == y) l = r := ⟨_, rfl⟩
  have HC : Hid (decide (0 ≤ r) = l.contains x) := by
    show _ = _
    rw [← hr]
    cases hc : l.contains x with
    | true => rw [decide_eq_true_iff]; exact idx_ints.2 hc
    | false => rw [decide_eq_false_iff_not]; intro h; rw [idx_ints.1 h] at hc; cases hc
  rw [hr] at C
  rw [← HC.out]
  clear hr hat
  go_enter Tryz.func139, Tryz.ntmps139
  go_wp2_with (go_at_call 168; (with_reducible refine C.out.mono ?_); rintro e w3 ⟨rfl, hs3⟩)
  go_ret
  exact ⟨rfl, Step.of⟩
theorem mval1_any (v : Val) (w : World) (hs : v.s.size ≤ 9223372036854775807) : Calls Tryz.prog 137 #[.agg #[.int .i64 v.kind, .int .i64 v.i, .bool v.b, .string v.s]] w fun e w' => e = .returned (.bool (!valueB v)) ∧ Step w w' := by
  have VB := fun w' => value_any v w' hs
  obtain ⟨T, hT⟩ : ∃ T, valueB v = T := ⟨_, rfl⟩
  rw [hT] at VB ⊢
  have VB := hide VB
  clear hT hs
  obtain ⟨W, hW⟩ : ∃ W, W = w.alloc (.cells #[.int .i64 v.kind, .int .i64 v.i, .bool v.b, .string v.s] 36) := ⟨_, rfl⟩
  have SW : Step w W := by rw [hW]; exact Step.of
  have HB : Hid (Blk W w.heap.size 36 [.int .i64 v.kind, .int .i64 v.i, .bool v.b, .string v.s]) := by rw [hW]; exact Blk.new w _ _
  obtain ⟨x0, x1, x2, x3⟩ := At.z4 HB.out.at0
  have lx := HB.out.lt
  go_enter Tryz.func137, Tryz.ntmps137
  go_upto_region 1 with fail
  rw [← hW]
  clear hW
  go_wp2_with (go_at_call 138; (with_reducible refine (VB.out _).mono ?_); rintro e w3 ⟨rfl, hs3⟩)
  go_ret
  exact ⟨rfl, Step.of⟩

theorem rep_get {L : List Value} (hL : L.length = 4) : ∀ (n i : Nat), i < n * 4 → (List.replicate n L).flatten[i]? = L[i % 4]?
  | 0, i, h => by omega
  | n + 1, i, h => by
    rw [List.replicate_succ, List.flatten_cons, List.getElem?_append, hL]
    split
    · rw [Nat.mod_eq_of_lt (by omega)]
    · rw [rep_get hL n (i - 4) (by omega)]
      congr 1
      omega
/-- make([]Value, n): values that are zero. -/
theorem made_vals (n : Nat) (hn : n ≤ 1000) : ∃ O : Obj, (∀ w : World, (Instr.makeSlice 65 (.int .i64 (n : Int)) (.int .i64 (n : Int))).run Tryz.prog w = .ok (.slice (some ⟨w.heap.size, 0, none⟩) n n) (w.alloc O)) ∧
    ∀ w : World, Own (w.alloc O) w.heap.size 36 4 (.slice (some ⟨w.heap.size, 0, none⟩) n n) ((List.replicate n Val.zero).map Val.cells) := by
  obtain ⟨ht, ⟨i, z, hi, hz, hs, hby, hzs⟩, _, _⟩ := eiV4
  have hz0 : z = .agg #[.int .i64 0, .int .i64 0, .bool false, .string .empty] := by
    have h : (Tryz.prog.info? 36).map (fun i => i.zero) = some (some (.agg #[.int .i64 0, .int .i64 0, .bool false, .string .empty])) := by kernel_rfl
    rw [hi] at h
    simp only [Option.map_some, Option.some.injEq] at h
    rw [hz] at h
    exact Option.some.inj h
  subst hz0
  refine ⟨.cells (((List.replicate n Val.zero).map Val.cells).flatten).toArray 36, fun w => ?_, fun w => ?_⟩
  · have hr := run_make (P := Tryz.prog) w 65 36 i _ ht hi hz .i64 .i64 n n (by omega) (Int.le_refl _) (by rw [hby]; omega) (by omega)
    rw [hs] at hr
    simp only [Int.toNat_natCast] at hr
    have hm : madeCells (Value.agg #[.int .i64 0, .int .i64 0, .bool false, .string .empty]).cells (n * 4) = (((List.replicate n Val.zero).map Val.cells).flatten).toArray := by
      have hl : (((List.replicate n Val.zero).map Val.cells).flatten).length = n * 4 := by rw [flatten_length (size := 4) (vals_fit _).len]; simp
      apply Array.ext
      · rw [size_madeCells]; simp only [List.size_toArray]; omega
      · intro j h1 h2
        have hj : j < n * 4 := by rw [size_madeCells] at h1; exact h1
        have hg := rep_get (L := Val.zero.cells) rfl n j hj
        rw [← List.map_replicate] at hg
        have e1 : (((List.replicate n Val.zero).map Val.cells).flatten)[j]? = some ((((List.replicate n Val.zero).map Val.cells).flatten)[j]'(by omega)) := List.getElem?_eq_getElem _
        rw [e1] at hg
        have h4 : j % 4 < 4 := Nat.mod_lt _ (by decide)
        rw [List.getElem?_eq_getElem (show j % 4 < Val.zero.cells.length from h4)] at hg
        simp only [madeCells, Array.getElem_map, Array.getElem_range, List.getElem_toArray]
        rw [Option.some.inj hg]
        rw [show (Value.agg #[.int .i64 0, .int .i64 0, .bool false, .string .empty]).cells = #[.int .i64 0, .int .i64 0, .bool false, .string .empty] from rfl]
        show (#[Value.int .i64 0, .int .i64 0, .bool false, .string .empty] : Array Value)[j % 4]! = _
        generalize j % 4 = m at h4
        match m, h4 with
        | 0, _ => rfl
        | 1, _ => rfl
        | 2, _ => rfl
        | 3, _ => rfl
    rw [hm] at hr
    exact hr
  · have hB := Blk.new w (((List.replicate n Val.zero).map Val.cells).flatten) 36
    exact Own.of_blk hB (Nat.le_refl _) (by simp) (vals_fit _).len (Nat.le_refl _) (by simp only [maxLen]; omega) (by rw [flatten_length (size := 4) (vals_fit _).len]; simp) (by rw [List.take_of_length_le]; rw [flatten_length (size := 4) (vals_fit _).len]; simp)
end Go.Proofs.YtnphokhehacfnaaGreatDoor

