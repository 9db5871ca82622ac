/-
  Kl, Kk: texts put together.
-/
import Derived.Test.YtafgfehjdbomfaaDoorLr
import Derived.Test.YtafgfehjdbomfaaDoorKd
import Derived.Test.YtafgfehjdbomfaaDoorKb
import Derived.Test.YtafgfehjdbomfaaDoorKe
import Derived.Test.YtafgfehjdbomfaaDoorGc
import Derived.Test.YtafgfehjdbomfaaDoorGg
import Derived.Test.YtafgfehjdbomfaaDoorFlRow
namespace Go.Proofs.YtafgfehjdbomfaaDoor
open Go.RowKit

theorem copyInts_any {w0 : World} (l : List Int) (A : Option Addr) (c : Nat) (w : World) (h : SlAt w0 w0.heap.size 1 A (intCells l)) [hf : Fut w0 w] (hl : l.length * 8 ≤ 140737488355328) :
    Calls Tryd.prog 34 #[.slice A l.length c] w fun e w' => ∃ A' c', e = .returned (.slice A' l.length c') ∧ l.length ≤ c' ∧ c' ≤ maxLen ∧ Own w' w.heap.size 3 1 (.slice A' l.length c') (intCells l) ∧ Step w w' := by
  have hat := h.fut (w' := w.alloc (.cells #[] 3))
  go_enter Tryd.func34, Tryd.ntmps34
  go_wp2_with (at_builtin; refine wpList_append_sl rfl (.tmp 3) (.tmp 4) 29 rfl eiInt (base := w.heap.size) (xs := []) rfl ?own Fit.nil_ (ys := intCells l) rfl (by rw [intCells_len]) hat (int_fit _) (by rw [intCells_len]; show (0 + _) * 8 ≤ _; omega) (by simp) (N := l.length) (by rw [intCells_len]; simp) ?_; rotate_left; intro A' cap' w' hc1 hc2 hown _ hbel)
  case own => exact ⟨by simp, .inr ⟨w.heap.size, 0, #[], rfl, Nat.le_refl _, heap_alloc_new w _, by simp, by simp, by simp, by simp⟩⟩
  go_ret
  exact ⟨A', cap', rfl, hc1, hc2, hown, ⟨(fut w (w.alloc (.cells #[] 3))).trans hbel⟩⟩

def markedI (l : List Int) : List Int := l ++ [-7777, -8888]
theorem lendInts_any {w0 : World} (l : List Int) (A : Option Addr) (c : Nat) (w : World) (h : SlAt w0 w0.heap.size 1 A (intCells l)) [hf : Fut w0 w] (hl : (l.length + 2) * 8 ≤ 140737488355328) :
    Calls Tryd.prog 10 #[.slice A l.length c] w fun e w' => ∃ A' c', e = .returned (.slice A' l.length c') ∧ l.length + 2 ≤ c' ∧ c' ≤ 9223372036854775807 ∧ SlAt w' w'.heap.size 1 A' (intCells (markedI l)) ∧ Step w w' := by
  go_enter Tryd.func10, Tryd.ntmps10
  go_wp2_with fail
  refine (copyInts_any l A c w h (by omega)).mono ?_
  rintro e w1 ⟨A1, c1, rfl, h1, h2, hown, hs1⟩
  have H1 := hide hown; clear hown
  have hz := hs1.size
  have HY := hide (SlAt.ints2 (w := w1) rfl (-7777) (-8888))
  go_wp2_with (at_builtin; refine wpList_append_sl rfl (.tmp 5) (.tmp 6) 29 rfl eiInt (base := w.heap.size) (xs := intCells l) rfl (H1.out.alloc _) (int_fit _) (ys := intCells [-7777, -8888]) rfl (by simp [intCells]) HY.out (int_fit _) (by rw [intCells_len, intCells_len]; exact hl) (by simp; omega) (N := l.length + 2) (by rw [intCells_len, intCells_len]; rfl) ?_; intro A2 c2 w2 hc1 hc2 hown2 hgr2 hbel2; obtain ⟨g, cur, rfl, _, _, _, _, _, _, _⟩ := hown2.blk (by simp [intCells]); have H2 := hide hown2; have HG := hide hbel2; clear hown2 hgr2 hbel2)
  simp only [maxLen] at hc2
  go_wp2_with fail
  go_ret
  have e : intCells (markedI l) = intCells l ++ intCells [-7777, -8888] := by simp [markedI, intCells]
  exact ⟨_, _, rfl, hc1, hc2, by rw [e]; exact H2.out.sl ((int_fit _).app (int_fit _)).len, ⟨(fut w (w1.alloc _)).trans HG.out⟩⟩

theorem keptInts_any {w1 w2 : World} (l : List Int) (A1 A2 : Option Addr) (c1 c2 : Nat) (w : World) (h1 : SlAt w1 w1.heap.size 1 A1 (intCells (markedI l))) (h2 : SlAt w2 w2.heap.size 1 A2 (intCells l)) [f1 : Fut w1 w] [f2 : Fut w2 w]
    (hl : l.length + 2 ≤ c1) (_hm : c1 ≤ 9223372036854775807) (hn : l.length ≤ 4611686018427387904) :
    Calls Tryd.prog 22 #[.slice A1 l.length c1, .slice A2 l.length c2] w fun e w' => e = .returned (.bool true) ∧ Step w w' := by
  have ee : intCells (markedI l) = intCells l ++ intCells [-7777, -8888] := by simp [markedI, intCells]
  have hp : SlAt w1 w1.heap.size 1 A1 (intCells l) := by rw [ee] at h1; exact h1.pre
  obtain ⟨b, o, rfl, hb, hc⟩ := h1.elem f1 (k := 0) (by rw [intCells_len]; simp [markedI])
  have z1 := f1.below.size
  have HC := hide hc; clear hc
  go_enter Tryd.func22, Tryd.ntmps22
  go_wp2_with fail
  refine (sameInts_any l _ _ _ _ _ hp h2 hn).mono ?_
  rintro e w3 ⟨rfl, hs3⟩
  have q := (fut w w3)
  have p0 := At.l1 ((HC.out l.length [.int .i64 (-7777)] (by simp [markedI, intCells])).below q (by omega))
  have q0 := At.l1 ((HC.out (l.length + 1) [.int .i64 (-8888)] (by simp [markedI, intCells])).below q (by omega))
  simp only [Nat.mul_one] at p0 q0
  clear q
  go_wp2_with fail
  go_ret
  exact ⟨rfl, Step.of⟩
end Go.Proofs.YtafgfehjdbomfaaDoor
namespace Go.Proofs.YtafgfehjdbomfaaDoor
open Go.RowKit

theorem stO_len (at_ : List Int) : ∀ i, (stO at_ i).2.length ≤ i
  | 0 => Nat.le_refl _
  | i + 1 => by
    have := stO_len at_ i
    rw [stO]
    split
    · simp only []; omega
    · simp only [List.length_append, List.length_cons, List.length_nil]; omega
theorem without_len (many : Int) (at_ : List Int) : (withoutR many at_).1.length ≤ 4096 := by
  have h := out_without many at_
  have h2 : (outO many at_).1.length ≤ 4096 := by
    unfold outO
    split
    · exact Nat.zero_le _
    · split
      · have := stO_len at_ many.toNat
        simp only []; omega
      · exact Nat.zero_le _
  rw [h] at h2
  exact h2
theorem without_code (many : Int) (at_ : List Int) : (withoutR many at_).2 = 0 ∨ (withoutR many at_).2 = 1600 := by
  unfold withoutR
  split
  · exact .inr rfl
  · split
    · exact .inl rfl
    · exact .inr rfl
theorem take_code (vss : List (List Val)) (at_ : List Int) : (takeR vss at_).2 = 0 ∨ (takeR vss at_).2 = 1600 := by
  unfold takeR
  split
  · exact .inl rfl
  · exact .inr rfl
theorem take_len (vss : List (List Val)) (at_ : List Int) : (takeR vss at_).1.length ≤ at_.length := by
  unfold takeR
  split
  · simp [takeTo]
  · exact Nat.zero_le _
theorem take_fine {P : List Val → Prop} {vss : List (List Val)} (h0 : P []) (h : ∀ vs ∈ vss, P (vs.map clean)) (at_ : List Int) : ∀ vs ∈ (takeR vss at_).1, P vs := by
  intro vs hv
  unfold takeR at hv
  split at hv
  · simp only [takeTo] at hv
    obtain ⟨k, _, rfl⟩ := List.mem_map.1 hv
    rw [List.getD_eq_getElem?_getD]
    cases e : vss[k.toNat]? with
    | none => exact h0
    | some x => exact h x (List.mem_of_getElem? e)
  · simp at hv
theorem sel_len (ns : List Nod) (s : Sch) (vss : List (List Val)) : (selR ns s vss).1.length ≤ vss.length := by
  unfold selR
  split
  · exact Nat.zero_le _
  · split
    · exact yesTo_len ns s vss vss.length
    · exact Nat.zero_le _
def FineVK (vs : List Val) : Prop := vs.length ≤ 3518437208780 ∧ ∀ v ∈ vs, v.s.size ≤ 9223372036854775807
theorem fine_cleanK {w : World} {r : RowA} (h : RowIn w r) : FineVK (r.vs.map clean) := by
  refine ⟨by rw [List.length_map]; exact h.hcapm, fun v hv => ?_⟩
  obtain ⟨u, hu, rfl⟩ := List.mem_map.1 hv
  exact clean_fine (h.strs u hu)

set_option maxRecDepth 100000 in
set_option maxHeartbeats 16000000 in
theorem sels_any (ps : List Nod) (Ap : Option Addr) (cp : Nat) (s : Sch) (As : Option Addr) (cs : Nat) (rs : List RowA) (Ar : Option Addr) (cr : Nat) (at_ : List Int) (Aa : Option Addr) (ca : Nat) (many : Int) (w : World)
    (hp : PrIn w ps Ap cp) (hs : SchIn w s As cs) (hr : RowsIn w rs Ar cr) (ha : SlAt w w.heap.size 1 Aa (intCells at_)) (hal : at_.length ≤ 1048576) :
    Calls Tryd.prog 3 #[.agg #[.slice Ap ps.length cp], .agg #[.int .i64 s.id, .slice As s.cols.length cs, .int .i64 s.next], .slice Ar rs.length cr, .slice Aa at_.length ca, .int .i64 many] w fun e w' => e = .returned (.bool true) ∧ Step w w' := by
  have hrm := hr.hcapm
  obtain ⟨W, hW⟩ : ∃ W, W = (w.alloc (.cells #[.slice Ap ps.length cp] 24)).alloc (.cells #[.int .i64 s.id, .slice As s.cols.length cs, .int .i64 s.next] 27) := ⟨_, rfl⟩
  have SW : Step w W := by rw [hW]; exact Step.of
  have HPB : Hid (Blk W w.heap.size 24 [.slice Ap ps.length cp]) := by rw [hW]; exact (Blk.new w [.slice Ap ps.length cp] 24).alloc _
  have HSB : Hid (Blk W (w.heap.size + 1) 27 [.int .i64 s.id, .slice As s.cols.length cs, .int .i64 s.next]) := by rw [hW]; exact Blk.new_at (by simp) [.int .i64 s.id, .slice As s.cols.length cs, .int .i64 s.next] 27
  have HW := hide hW
  have hzW := SW.size
  clear hW
  obtain ⟨T1, hT1⟩ : ∃ T, selR ps s (rs.map RowA.vs) = T := ⟨_, rfl⟩
  obtain ⟨T2, hT2⟩ : ∃ T, takeR (rs.map RowA.vs) at_ = T := ⟨_, rfl⟩
  obtain ⟨T3, hT3⟩ : ∃ T, withoutR many at_ = T := ⟨_, rfl⟩
  have hb1 := sel_len ps s (rs.map RowA.vs)
  have hb2 := take_len (rs.map RowA.vs) at_
  have hb3 := without_len many at_
  have hc2 := take_code (rs.map RowA.vs) at_
  have hc3 := without_code many at_
  have hf2 := take_fine (P := FineVK) (vss := rs.map RowA.vs) ⟨Nat.zero_le _, fun v hv => by simp at hv⟩ (fun vs hv => by obtain ⟨r, hr_, rfl⟩ := List.mem_map.1 hv; exact fine_cleanK (hr.rows r hr_)) at_
  have ho3 := out_without many at_
  rw [hT1, List.length_map] at hb1
  rw [hT2] at hb2 hc2 hf2
  rw [hT3] at hb3 hc3 ho3
  have L0 := hide (fun w' [Fut w w'] => lendRows_any rs Ar cr w' hr)
  have L1 := hide (fun w' [Fut w w'] => lendInts_any at_ Aa ca w' ha (by omega))
  have r1 := fun w' [Fut w w'] => rselRows_any ps Ap cp s As cs rs Ar cr w' hp hs hr
  have r2 := fun w' [Fut w w'] => rtake_any rs Ar cr at_ Aa ca w' hr ha (by omega)
  have r3 := fun w' [Fut w w'] => rwithout_any many at_ Aa ca w' ha (by omega)
  rw [hT1] at r1
  rw [hT2] at r2
  rw [ho3] at r3
  have HT1 := hide hT1; have HT2 := hide hT2; have HT3 := hide hT3
  clear hT1 hT2 hT3 ho3
  obtain ⟨l1, e1⟩ := T1
  obtain ⟨l2, e2⟩ := T2
  obtain ⟨l3, e3⟩ := T3
  simp only at hb1 hb2 hb3 hc2 hc3 hf2 r1 r2 r3
  unfold Sch.val at r1
  have R1 := hide r1; have R2 := hide r2; have R3 := hide r3; have HF2 := hide hf2
  clear r1 r2 r3 hf2
  go_enter Tryd.func3, Tryd.ntmps3
  go_upto_region 2 with (first
    | (go_at_call 9; (with_reducible refine (L0.out _).mono ?_); rintro e w1 ⟨A1, c1, o1, rfl, hv1, ho1, hs1⟩; rw [← HW.out] at hs1 ho1; have HV1 := hide hv1; have HO1 := hide ho1; clear hv1 ho1)
    | (go_at_call 10; (with_reducible refine (L1.out _).mono ?_); rintro e w2 ⟨A2, c2, rfl, hc21, hc22, ha2, hs2⟩; have HA2 := hide ha2; clear ha2; have hz2 := (fut W w2).size; have h1_ := HPB.out.fut (w' := w2); have p0 := At.z1 h1_.at0; have lp := h1_.lt; have h3_ := HSB.out.fut (w' := w2); obtain ⟨s0, s1, s2⟩ := At.z3 h3_.at0; have ls := h3_.lt; clear h1_ h3_))
  have hz1 := (fut W w1).size
  have hn1 : o1.length = rs.length := by have := congrArg List.length HV1.out; simpa using this
  have HR1 : Hid (RowsIn w1 o1 A1 c1) := by
    have q := HO1.out
    rw [← hn1] at q
    refine q.rin (by omega) fun vs hv => ?_
    rw [HV1.out] at hv
    obtain ⟨r, hr_, rfl⟩ := List.mem_map.1 hv
    exact ⟨(hr.rows r hr_).hcapm, (hr.rows r hr_).strs⟩
  have HAP : Hid (SlAt w2 w2.heap.size 1 A2 (intCells at_)) := by
    have ee : intCells (markedI at_) = intCells at_ ++ intCells [-7777, -8888] := by simp [markedI, intCells]
    have h_ := HA2.out
    rw [ee] at h_
    exact h_.pre
  have q1 := fun w' [Fut w w'] [Fut w1 w'] => pselRows_any ps Ap cp s As cs o1 A1 c1 w' hp hs HR1.out
  rw [hn1, HV1.out, HT1.out] at q1
  unfold Sch.val at q1
  have q2 := fun w' [Fut w1 w'] [Fut w2 w'] => ptake_any o1 A1 c1 at_ A2 c2 w' HR1.out HAP.out (by omega)
  rw [hn1, HV1.out, HT2.out] at q2
  have q3 := fun w' [Fut w2 w'] => pwithout_any many at_ A2 c2 w' HAP.out (by omega)
  rw [HT3.out] at q3
  have Q1 := hide q1; have Q2 := hide q2; have Q3 := hide q3; have HN1 := hide hn1
  clear q1 q2 q3 hn1 L0 L1
  go_upto_region 8 with (first
    | (go_at_call 11; (with_reducible refine (Q1.out _).mono ?_); rintro e w3 ⟨X3, c3, rfl, ho3, hs3⟩; have H3 := hide (ho3.sl (int_fit l1).len); clear ho3; clear p0 lp s0 s1 s2 ls; have h1_ := HPB.out.fut (w' := w3); have p0 := At.z1 h1_.at0; have lp := h1_.lt; have h3_ := HSB.out.fut (w' := w3); obtain ⟨s0, s1, s2⟩ := At.z3 h3_.at0; have ls := h3_.lt; clear h1_ h3_)
    | (go_at_call 12; (with_reducible refine (R1.out _).mono ?_); rintro e w4 ⟨X4, c4, rfl, ho4, hs4⟩; have H4 := hide (ho4.sl (int_fit l1).len); clear ho4; clear p0 lp s0 s1 s2 ls)
    | (go_at_call 13; (with_reducible refine (Q2.out _).mono ?_); rintro e w5 ⟨X5, c5, o5, hv5, rfl, ho5, hs5⟩; have HV5 := hide hv5; have HO5 := hide ho5; clear hv5 ho5)
    | (go_at_call 14; (with_reducible refine (R2.out _).mono ?_); rintro e w6 ⟨X6, c6, o6, hv6, rfl, ho6, hs6⟩; have HV6 := hide hv6; have HO6 := hide ho6; clear hv6 ho6)
    | (go_at_call 15; (with_reducible refine (Q3.out _).mono ?_); rintro e w7 ⟨X7, c7, rfl, ho7, hs7⟩; have H7 := hide (ho7.sl (int_fit l3).len); clear ho7)
    | (go_at_call 16; (with_reducible refine (R3.out _).mono ?_); rintro e w8 ⟨X8, c8, rfl, ho8, hs8⟩; have H8 := hide (ho8.sl (int_fit l3).len); clear ho8))
  have hz3 := (fut w2 w3).size; have hz4 := (fut w3 w4).size; have hz5 := (fut w4 w5).size; have hz6 := (fut w5 w6).size; have hz7 := (fut w6 w7).size; have hz8 := (fut w7 w8).size
  have hn5 : o5.length = l2.length := by have := congrArg List.length HV5.out; simpa using this
  have hn6 : o6.length = l2.length := by have := congrArg List.length HV6.out; simpa using this
  have HR5 : Hid (RowsIn w5 o5 X5 c5) := HO5.out.rin (by omega) fun vs hv => HF2.out vs (by rw [← HV5.out]; exact hv)
  have HR6 : Hid (RowsIn w6 o6 X6 c6) := HO6.out.rin (by omega) fun vs hv => HF2.out vs (by rw [← HV6.out]; exact hv)
  have SR := hide (fun w' [Fut w5 w'] [Fut w6 w'] => sameRows_any o5 o6 X5 X6 c5 c6 w' HR5.out HR6.out (by rw [HV5.out, HV6.out]))
  have S1 := hide (fun w' [Fut w3 w'] [Fut w4 w'] => sameInts_any l1 X3 X4 c3 c4 w' H3.out H4.out (by omega))
  have S2 := hide (fun w' [Fut w7 w'] [Fut w8 w'] => sameInts_any l3 X7 X8 c7 c8 w' H7.out H8.out (by omega))
  have SP : Hid (∀ w' [Fut w5 w'], Calls Tryd.prog 20 #[.slice X5 o5.length c5] w' fun e w'' => e = .returned (.tuple #[]) ∧ Below w4.heap.size w' w'') := by
    intro w' _
    exact spoilRows_any w4.heap.size o5 X5 c5 w' (OwnR.fut (w' := w') HO5.out) (by omega) (fun r hr_ => Nat.le_trans (HF2.out r.vs (by rw [← HV5.out]; exact List.mem_map.2 ⟨r, hr_, rfl⟩)).1 (by decide))
  have HHN5 := hide hn5; have HHN6 := hide hn6
  clear hn5 hn6 hb1 hb2 hb3
  rcases hc2 with rfl | rfl
  · rcases hc3 with rfl | rfl
    · go_upto_region 10 with (first
        | (go_at_call 18; refine (numv_any _ _).mono ?_; rintro e w' ⟨rfl, rfl⟩)
        | (go_at_call 17; (with_reducible refine (S1.out _).mono ?_); rintro e w9 ⟨rfl, hs9⟩)
        | (go_at_call 19; (with_reducible refine (SR.out _).mono ?_); rintro e w10 ⟨rfl, hs10⟩)
        | (go_at_call 17; (with_reducible refine (S2.out _).mono ?_); rintro e w11 ⟨rfl, hs11⟩))
      go_upto_region 11 with (go_at_call 20; (with_reducible refine (SP.out _).mono ?_); rintro e w12 ⟨rfl, hb12⟩; have HB12 := hide hb12; clear hb12)
      have F12 : Step w4 w12 := ⟨((fut w4 w11).mono (Nat.le_refl _)).trans HB12.out⟩
      have hz12 := F12.size
      have KR := fun w' [Fut w1 w'] [Fut w w'] => keptRows_any (w1 := w1) (w2 := w) W.heap.size o1 rs A1 Ar c1 cr w' (by rw [HN1.out]; exact HO1.out) hr HV1.out
      rw [HN1.out] at KR
      have KR := hide KR
      have KI := hide (fun w' [Fut w2 w'] [Fut w w'] => keptInts_any (w1 := w2) (w2 := w) at_ A2 Aa c2 ca w' HA2.out ha hc21 hc22 (by omega))
      go_wp2_with (first
        | (go_at_call 21; (with_reducible refine (KR.out _).mono ?_); rintro e w13 ⟨rfl, hs13⟩)
        | (go_at_call 22; (with_reducible refine (KI.out _).mono ?_); rintro e w14 ⟨rfl, hs14⟩)
        | (go_at_call 23; refine (awake16_any _).mono ?_; rintro e w15 ⟨rfl, hs15⟩))
      go_ret
      exact ⟨rfl, Step.of⟩
    · go_upto_region 10 with (first
        | (go_at_call 18; refine (numv_any _ _).mono ?_; rintro e w' ⟨rfl, rfl⟩)
        | (go_at_call 17; (with_reducible refine (S1.out _).mono ?_); rintro e w9 ⟨rfl, hs9⟩)
        | (go_at_call 19; (with_reducible refine (SR.out _).mono ?_); rintro e w10 ⟨rfl, hs10⟩)
        | (go_at_call 17; (with_reducible refine (S2.out _).mono ?_); rintro e w11 ⟨rfl, hs11⟩))
      go_upto_region 11 with (go_at_call 20; (with_reducible refine (SP.out _).mono ?_); rintro e w12 ⟨rfl, hb12⟩; have HB12 := hide hb12; clear hb12)
      have F12 : Step w4 w12 := ⟨((fut w4 w11).mono (Nat.le_refl _)).trans HB12.out⟩
      have hz12 := F12.size
      have KR := fun w' [Fut w1 w'] [Fut w w'] => keptRows_any (w1 := w1) (w2 := w) W.heap.size o1 rs A1 Ar c1 cr w' (by rw [HN1.out]; exact HO1.out) hr HV1.out
      rw [HN1.out] at KR
      have KR := hide KR
      have KI := hide (fun w' [Fut w2 w'] [Fut w w'] => keptInts_any (w1 := w2) (w2 := w) at_ A2 Aa c2 ca w' HA2.out ha hc21 hc22 (by omega))
      go_wp2_with (first
        | (go_at_call 21; (with_reducible refine (KR.out _).mono ?_); rintro e w13 ⟨rfl, hs13⟩)
        | (go_at_call 22; (with_reducible refine (KI.out _).mono ?_); rintro e w14 ⟨rfl, hs14⟩)
        | (go_at_call 23; refine (awake16_any _).mono ?_; rintro e w15 ⟨rfl, hs15⟩))
      go_ret
      exact ⟨rfl, Step.of⟩
  · rcases hc3 with rfl | rfl
    · go_upto_region 10 with (first
        | (go_at_call 18; refine (numv_any _ _).mono ?_; rintro e w' ⟨rfl, rfl⟩)
        | (go_at_call 17; (with_reducible refine (S1.out _).mono ?_); rintro e w9 ⟨rfl, hs9⟩)
        | (go_at_call 19; (with_reducible refine (SR.out _).mono ?_); rintro e w10 ⟨rfl, hs10⟩)
        | (go_at_call 17; (with_reducible refine (S2.out _).mono ?_); rintro e w11 ⟨rfl, hs11⟩))
      go_upto_region 11 with (go_at_call 20; (with_reducible refine (SP.out _).mono ?_); rintro e w12 ⟨rfl, hb12⟩; have HB12 := hide hb12; clear hb12)
      have F12 : Step w4 w12 := ⟨((fut w4 w11).mono (Nat.le_refl _)).trans HB12.out⟩
      have hz12 := F12.size
      have KR := fun w' [Fut w1 w'] [Fut w w'] => keptRows_any (w1 := w1) (w2 := w) W.heap.size o1 rs A1 Ar c1 cr w' (by rw [HN1.out]; exact HO1.out) hr HV1.out
      rw [HN1.out] at KR
      have KR := hide KR
      have KI := hide (fun w' [Fut w2 w'] [Fut w w'] => keptInts_any (w1 := w2) (w2 := w) at_ A2 Aa c2 ca w' HA2.out ha hc21 hc22 (by omega))
      go_wp2_with (first
        | (go_at_call 21; (with_reducible refine (KR.out _).mono ?_); rintro e w13 ⟨rfl, hs13⟩)
        | (go_at_call 22; (with_reducible refine (KI.out _).mono ?_); rintro e w14 ⟨rfl, hs14⟩)
        | (go_at_call 23; refine (awake16_any _).mono ?_; rintro e w15 ⟨rfl, hs15⟩))
      go_ret
      exact ⟨rfl, Step.of⟩
    · go_upto_region 10 with (first
        | (go_at_call 18; refine (numv_any _ _).mono ?_; rintro e w' ⟨rfl, rfl⟩)
        | (go_at_call 17; (with_reducible refine (S1.out _).mono ?_); rintro e w9 ⟨rfl, hs9⟩)
        | (go_at_call 19; (with_reducible refine (SR.out _).mono ?_); rintro e w10 ⟨rfl, hs10⟩)
        | (go_at_call 17; (with_reducible refine (S2.out _).mono ?_); rintro e w11 ⟨rfl, hs11⟩))
      go_upto_region 11 with (go_at_call 20; (with_reducible refine (SP.out _).mono ?_); rintro e w12 ⟨rfl, hb12⟩; have HB12 := hide hb12; clear hb12)
      have F12 : Step w4 w12 := ⟨((fut w4 w11).mono (Nat.le_refl _)).trans HB12.out⟩
      have hz12 := F12.size
      have KR := fun w' [Fut w1 w'] [Fut w w'] => keptRows_any (w1 := w1) (w2 := w) W.heap.size o1 rs A1 Ar c1 cr w' (by rw [HN1.out]; exact HO1.out) hr HV1.out
      rw [HN1.out] at KR
      have KR := hide KR
      have KI := hide (fun w' [Fut w2 w'] [Fut w w'] => keptInts_any (w1 := w2) (w2 := w) at_ A2 Aa c2 ca w' HA2.out ha hc21 hc22 (by omega))
      go_wp2_with (first
        | (go_at_call 21; (with_reducible refine (KR.out _).mono ?_); rintro e w13 ⟨rfl, hs13⟩)
        | (go_at_call 22; (with_reducible refine (KI.out _).mono ?_); rintro e w14 ⟨rfl, hs14⟩)
        | (go_at_call 23; refine (awake16_any _).mono ?_; rintro e w15 ⟨rfl, hs15⟩))
      go_ret
      exact ⟨rfl, Step.of⟩
end Go.Proofs.YtafgfehjdbomfaaDoor
