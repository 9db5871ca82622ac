/-
  The law Prunes answers true for every input, and its card holds.
-/
import Derived.Test.YtcgpfllkbflbhaaGreatDoorOpPr
import Derived.Test.YtcgpfllkbflbhaaGreatDoorTg
import Derived.Test.YtcgpfllkbflbhaaGreatDoorUf
import Derived.Test.YtcgpfllkbflbhaaGreatDoorFlSta
import Derived.Test.YtcgpfllkbflbhaaGreatDoorFlVal
import Derived.Test.YtcgpfllkbflbhaaGreatDoorLs
namespace Go.Proofs.YtcgpfllkbflbhaaGreatDoor
open Go.RowKit

set_option maxRecDepth 100000 in
set_option maxHeartbeats 16000000 in
theorem prunes_any (ns : List Nod) (A : Option Addr) (cap : Nat) (s : Sch) (As : Option Addr) (cs : Nat) (sts : List Sta) (At_ : Option Addr) (ct : Nat) (rows sid : Int) (fs : List Fld) (Af : Option Addr) (cf : Nat) (part : List Val) (Av : Option Addr) (cv : Nat) (w : World)
    (hp : PrIn w ns A cap) (hs : SchIn w s As cs) (ht : SlAt w w.heap.size 10 At_ (sts.map Sta.cells)) (htl : (sts.length + 2) * 96 ≤ 140737488355328) (hss : ∀ t ∈ sts, t.mn.s.size ≤ 9223372036854775807 ∧ t.mx.s.size ≤ 9223372036854775807)
    (hfs : FsIn w fs Af cf) (hv : SlAt w w.heap.size 4 Av (part.map Val.cells)) (hvl : (part.length + 2) * 40 ≤ 140737488355328) (hvs : ∀ v ∈ part, v.s.size ≤ 9223372036854775807) :
    Calls Tryz.prog 3 #[.agg #[.slice A ns.length cap], s.val As cs, .slice At_ sts.length ct, .int .i64 rows, .agg #[.int .i64 sid, .slice Af fs.length cf], .slice Av part.length cv] w fun e w' => e = .returned (.bool true) ∧ Step w w' := by
  have HSS := hide hss; have HVS := hide hvs
  clear hss hvs
  have ls := fun w' [Fut w w'] => lendSchemaO_any s As cs w' hs
  unfold Sch.val at ls ⊢
  have LS := hide ls
  clear ls
  obtain ⟨W, hW⟩ : ∃ W, W = ((w.alloc (.cells #[.slice A ns.length cap] 24)).alloc (.cells #[.int .i64 s.id, .slice As s.cols.length cs, .int .i64 s.next] 27)).alloc (.cells #[.int .i64 sid, .slice Af fs.length cf] 31) := ⟨_, rfl⟩
  have SW : Step w W := by rw [hW]; exact Step.of
  have HPB : Hid (Blk W w.heap.size 24 [.slice A ns.length cap]) := by rw [hW]; exact ((Blk.new w [.slice A ns.length cap] 24).alloc _).alloc _
  have HSB : Hid (Blk W (w.heap.size + 1) 27 [.int .i64 s.id, .slice As s.cols.length cs, .int .i64 s.next]) := by rw [hW]; exact (Blk.new_at (by simp) [.int .i64 s.id, .slice As s.cols.length cs, .int .i64 s.next] 27).alloc _
  have HFB : Hid (Blk W (w.heap.size + 2) 31 [.int .i64 sid, .slice Af fs.length cf]) := by rw [hW]; exact Blk.new_at (by simp) [.int .i64 sid, .slice Af fs.length cf] 31
  have HW := hide hW
  clear hW
  go_enter Tryz.func3, Tryz.ntmps3
  go_upto_region 1 with (fail)
  rw [← HW.out]
  obtain ⟨q0, q1, q2⟩ := At.z3 (HSB.out.fut (w' := W)).at0; have lq := (HSB.out.fut (w' := W)).lt
  go_wp2_with fail
  refine (LS.out _).mono ?_
  intro e w1 hr1
  obtain ⟨A1, c1, rfl, hle1, _, hs1⟩ := hr1
  clear q0 q1 q2 lq
  have LE1 := hide hle1
  clear hle1 LS
  go_wp2_with fail
  refine (lendStats_any sts At_ ct w1 ht htl).mono ?_
  intro e w2 hr2
  obtain ⟨A2, c2, rfl, hc2, hm2, hl2, _, hs2⟩ := hr2
  have LE2 := hide hl2
  clear hl2
  go_wp2_with fail
  refine (lendValues_any part Av cv w2 hv hvl).mono ?_
  intro e w3 hr3
  obtain ⟨A3, c3, rfl, hc3, hm3, hl3, _, hs3⟩ := hr3
  have LE3 := hide hl3
  clear hl3
  go_upto_region 2 with (fail)
  obtain ⟨Z, hZ⟩ : ∃ Z, Z = w3.alloc (.cells #[.int .i64 s.id, .slice A1 s.cols.length c1, .int .i64 s.next] 27) := ⟨_, rfl⟩
  have SZ : Step w3 Z := by rw [hZ]; exact Step.of
  have HZB : Hid (Blk Z w3.heap.size 27 [.int .i64 s.id, .slice A1 s.cols.length c1, .int .i64 s.next]) := by rw [hZ]; exact Blk.new w3 [.int .i64 s.id, .slice A1 s.cols.length c1, .int .i64 s.next] 27
  rw [← hZ]
  clear hZ
  have HS1 := hide LE1.out.sin
  have HT1 : Hid (SlAt w2 w2.heap.size 10 A2 (sts.map Sta.cells)) := by have h := LE2.out; rw [List.map_append] at h; exact h.pre
  have HV1 : Hid (SlAt w3 w3.heap.size 4 A3 (part.map Val.cells)) := by have h := LE3.out; rw [List.map_append] at h; exact h.pre
  obtain ⟨a, ea, hA⟩ : ∃ a ea, statsR ns s sts rows = (a, ea) := ⟨_, _, rfl⟩
  obtain ⟨c, ec, hC⟩ : ∃ c ec, partsR ns s sid fs part = (c, ec) := ⟨_, _, rfl⟩
  have t1 := fun w' [Fut w w'] [Fut w1 w'] [Fut w2 w'] => pstats_any ns A cap s A1 c1 sts A2 c2 rows w' hp HS1.out HT1.out (by omega)
  have t2 := fun w' [Fut w w'] => rstats_any ns A cap s As cs sts At_ ct rows w' hp hs ht (by omega) HSS.out
  have t3 := fun w' [Fut w w'] [Fut w1 w'] [Fut w3 w'] => pparts_any ns A cap s A1 c1 sid fs Af cf part A3 c3 w' hp HS1.out hfs HV1.out
  have t4 := fun w' [Fut w w'] => rparts_any ns A cap s As cs sid fs Af cf part Av cv w' hp hs hfs hv HVS.out
  have t5 := fun w' [Fut w w'] [Fut w1 w'] => keptSchema_any s A1 As c1 cs w' LE1.out hs
  rw [hA] at t1 t2
  rw [hC] at t3 t4
  unfold Sch.val at t1 t2 t3 t4 t5
  have T1 := hide t1; have T2 := hide t2; have T3 := hide t3; have T4 := hide t4; have T5 := hide t5
  have T6 := hide (fun w' [Fut w w'] [Fut w2 w'] => keptStats_any sts A2 At_ c2 ct w' LE2.out ht hc2 hm2 (by omega))
  have T7 := hide (fun w' [Fut w w'] [Fut w3 w'] => keptValues_any part A3 Av c3 cv w' LE3.out hv hc3 hm3 (by omega))
  clear t1 t2 t3 t4 t5 hA hC
  have p0 := At.z1 (HPB.out.fut (w' := Z)).at0; have lp := (HPB.out.fut (w' := Z)).lt
  obtain ⟨z0, z1, z2⟩ := At.z3 (HZB.out.fut (w' := Z)).at0; have lz := (HZB.out.fut (w' := Z)).lt
  go_wp2_with fail
  refine (T1.out _).mono ?_
  rintro e w4 ⟨rfl, hs4⟩
  clear p0 lp z0 z1 z2 lz
  have p0 := At.z1 (HPB.out.fut (w' := w4)).at0; have lp := (HPB.out.fut (w' := w4)).lt
  obtain ⟨q0, q1, q2⟩ := At.z3 (HSB.out.fut (w' := w4)).at0; have lq := (HSB.out.fut (w' := w4)).lt
  go_wp2_with fail
  refine (T2.out _).mono ?_
  rintro e w5 ⟨rfl, hs5⟩
  clear p0 lp q0 q1 q2 lq
  have p0 := At.z1 (HPB.out.fut (w' := w5)).at0; have lp := (HPB.out.fut (w' := w5)).lt
  obtain ⟨z0, z1, z2⟩ := At.z3 (HZB.out.fut (w' := w5)).at0; have lz := (HZB.out.fut (w' := w5)).lt
  obtain ⟨u0, u1⟩ := At.z2 (HFB.out.fut (w' := w5)).at0; have lu := (HFB.out.fut (w' := w5)).lt
  go_wp2_with fail
  refine (T3.out _).mono ?_
  rintro e w6 ⟨rfl, hs6⟩
  clear p0 lp z0 z1 z2 lz u0 u1 lu
  have p0 := At.z1 (HPB.out.fut (w' := w6)).at0; have lp := (HPB.out.fut (w' := w6)).lt
  obtain ⟨q0, q1, q2⟩ := At.z3 (HSB.out.fut (w' := w6)).at0; have lq := (HSB.out.fut (w' := w6)).lt
  obtain ⟨u0, u1⟩ := At.z2 (HFB.out.fut (w' := w6)).at0; have lu := (HFB.out.fut (w' := w6)).lt
  go_wp2_with fail
  refine (T4.out _).mono ?_
  rintro e w7 ⟨rfl, hs7⟩
  clear p0 lp q0 q1 q2 lq u0 u1 lu
  obtain ⟨q0, q1, q2⟩ := At.z3 (HSB.out.fut (w' := w7)).at0; have lq := (HSB.out.fut (w' := w7)).lt
  obtain ⟨z0, z1, z2⟩ := At.z3 (HZB.out.fut (w' := w7)).at0; have lz := (HZB.out.fut (w' := w7)).lt
  go_wp2_with (first
    | (go_at_call 11; refine (numv_any _ _).mono ?_; rintro e w' ⟨rfl, rfl⟩)
    | (go_at_call 12; refine (T5.out _).mono ?_; rintro e w8 ⟨rfl, hs8⟩)
    | (go_at_call 13; refine (T6.out _).mono ?_; rintro e w9 ⟨rfl, hs9⟩)
    | (go_at_call 14; refine (T7.out _).mono ?_; rintro e w10 ⟨rfl, hs10⟩)
    | (go_at_call 15; refine (awake18_any _).mono ?_; rintro e w11 ⟨rfl, hs11⟩))
  go_ret
  exact ⟨by simp, Step.of⟩
end Go.Proofs.YtcgpfllkbflbhaaGreatDoor
namespace Go.Proofs.YtcgpfllkbflbhaaGreatDoor.prunes
open Go.ChangeShapes Go.WideShapes Go.ChangeAt Go.RowKit

set_option maxRecDepth 100000 in
theorem contract (H : Type) (enc : TypeId × Value → H) (W : World) (base : Nat) (args : Array Value) (ds gs : List (DataW H)) (before : List MemPlace)
    (hval : ∀ (j : Nat) t v, Tryz.f3.params[j]? = some t → args[j]? = some v → Value.okWide Tryz.prog W .any base t v)
    (hW : DataW.Whole enc Tryz.prog Tryz.f3.params.toList Rows.prunesSpec.vars false W args.toList ds gs before)
    (hlim : (DataW.weightsEach Tryz.prog (Tryz.f3.params.toList ++ (OpenSpec.ofChange Rows.prunesSpec).bare.plain.varTypes Tryz.prog) (ds ++ gs)).all (· ≤ reachBytes) = true) :
    Calls Tryz.prog 3 args W fun e W' => ∃ v, e = .returned v ∧ Rows.prunesSpec.post enc Tryz.prog Tryz.f3 false true false false W args v W' := by
  obtain ⟨p, q, hA0, hV, hpq, hfz, hnd⟩ := id hW
  have hA : DataW.TrodAll enc Tryz.prog W 0 (fun _ => true) true Tryz.f3.params.toList args.toList ds p := hA0
  clear hA0
  obtain ⟨rfl, rfl⟩ := trodVars_none hV
  have hl := lim_each hlim
  rw [List.append_nil] at hl
  have hl : ∀ n ∈ DataW.weightsEach Tryz.prog [24, 27, 28, 3, 31, 32] ds, n ≤ reachBytes := hl
  rw [Tryz.params3] at hA hval
  obtain ⟨v0, vs0, d0, ds0, p0, q0, hargs, rfl, rfl, h0, r0⟩ := trodAll_cons hA
  obtain ⟨v1, vs1, d1, ds1, p1, q1, rfl, rfl, rfl, h1, r1⟩ := trodAll_cons r0
  obtain ⟨v2, vs2, d2, ds2, p2, q2, rfl, rfl, rfl, h2, r2⟩ := trodAll_cons r1
  obtain ⟨v3, vs3, d3, ds3, p3, q3, rfl, rfl, rfl, h3, r3⟩ := trodAll_cons r2
  obtain ⟨v4, vs4, d4, ds4, p4, q4, rfl, rfl, rfl, h4, r4⟩ := trodAll_cons r3
  obtain ⟨v5, vs5, d5, ds5, p5, q5, rfl, rfl, rfl, h5, r5⟩ := trodAll_cons r4
  obtain ⟨rfl, rfl, rfl⟩ := trodAll_nil r5
  obtain rfl : args = #[v0, v1, v2, v3, v4, v5] := by cases args; simp_all
  obtain ⟨l0, m0⟩ := lim_cons hl
  obtain ⟨l1, m1⟩ := lim_cons m0
  obtain ⟨l2, m2⟩ := lim_cons m1
  obtain ⟨l3, m3⟩ := lim_cons m2
  obtain ⟨l4, m4⟩ := lim_cons m3
  obtain ⟨l5, m5⟩ := lim_cons m4
  obtain ⟨x0, rfl, g0⟩ := o_pred.agg Tryz.underlying24 (hval 0 24 v0 rfl rfl) h0 l0
  obtain ⟨x1, rfl, g1⟩ := o_sch.agg Tryz.underlying27 (hval 1 27 v1 rfl rfl) h1 l1
  obtain ⟨x2, rfl, g2⟩ := o_stats.slice Tryz.underlying28 (hval 2 28 v2 rfl rfl) h2 l2
  obtain ⟨x3, rfl, g3⟩ := o_int.int Tryz.underlying3 (hval 3 3 v3 rfl rfl) h3 l3
  obtain ⟨x4, rfl, g4⟩ := o_spec.agg Tryz.underlying31 (hval 4 31 v4 rfl rfl) h4 l4
  obtain ⟨x5, rfl, g5⟩ := o_vals.slice Tryz.underlying32 (hval 5 32 v5 rfl rfl) h5 l5
  refine (prunes_any x0.2.2 x0.1 x0.2.1 x1.1 x1.2.1 x1.2.2 x2.2.2 x2.1 x2.2.1 x3 x4.1 x4.2.2.2 x4.2.1 x4.2.2.1 x5.2.2 x5.1 x5.2.1 W g0 g1 g2.2.2.1 (by have h1 := g2.1; have h2 := g2.2.1; omega) g2.2.2.2 g4 g5.2.2.1 (by have h1 := g5.1; have h2 := g5.2.1; omega) g5.2.2.2).mono fun e W' ⟨he, hb'⟩ => ?_
  subst he
  exact ⟨_, rfl, law_post (by kernel_rfl) (by kernel_rfl) rfl Tryz.underlying4 rfl rfl hW hb'.below⟩

theorem reads (os : Os) {H : Type} (enc : TypeId × Value → H) : ∃ places, DataW.whole enc Tryz.prog ((tabled os).forCall (fun _ _ => 0) ⟨#[], #[.agg #[.slice none 0 0], .agg #[.int .i64 0, .slice none 0 0, .int .i64 0], .slice none 0 0, .int .i64 0, .agg #[.int .i64 0, .slice none 0 0], .slice none 0 0], []⟩).memory Tryz.f3.params.toList Rows.prunesSpec.vars false (#[.agg #[.slice none 0 0], .agg #[.int .i64 0, .slice none 0 0, .int .i64 0], .slice none 0 0, .int .i64 0, .agg #[.int .i64 0, .slice none 0 0], .slice none 0 0] : Array Value).toList 8 = some ([.agg [.nil], .agg [.lit (.int .i64 0), .nil, .lit (.int .i64 0)], .nil, .lit (.int .i64 0), .agg [.lit (.int .i64 0), .nil], .nil], [], places) :=
  ⟨[], by kernel_rfl⟩

set_option maxRecDepth 100000 in
theorem lifted (os : Os) (started : os.Started) (H : Type) (enc : TypeId × Value → H) (F : Stop.Interp) :
    ReturnsInHanded {} Tryz.checked os 3 .any ((OpenSpec.ofChange Rows.prunesSpec).preRow enc Tryz.prog Tryz.f3 Rows.prunesRow.domain false Rows.prunesRow.laid) (((OpenSpec.ofChange Rows.prunesSpec).at F).post enc Tryz.prog Tryz.f3 false true false false) := by
  obtain ⟨places, hx⟩ := reads os enc
  refine returnsInHanded_of_row (C := Tryz.checked) (s := OpenSpec.ofChange Rows.prunesSpec) own started (by kernel_rfl) Tryz.func3
    (tabled_witness (enc := enc) #[.agg #[.slice none 0 0], .agg #[.int .i64 0, .slice none 0 0, .int .i64 0], .slice none 0 0, .int .i64 0, .agg #[.int .i64 0, .slice none 0 0], .slice none 0 0] 8 hx (by kernel_rfl) (by kernel_rfl) (fun k hk => by cases hk) (by kernel_rfl)) ?_
  intro W base args ds gs before hval hW _ hcond hlim _ _ _
  exact contract H enc W base args ds gs before hval hW hlim

theorem said : Rows.PrunesSaid :=
  OpenClaim.holds_of_cond 3 Tryz.f3 rfl rfl rfl rfl rfl rfl rfl ⟨rfl, rfl, rfl, rfl, rfl⟩ rfl rfl rfl rfl rfl (by kernel_rfl) Tryz.func3 (by kernel_rfl)
    (of_decide_eq_true (by kernel_rfl)) (by unfold Func.isWrapper; first | (rw [if_pos (by decide +kernel)]; kernel_rfl) | (rw [if_neg (by decide +kernel)]; exact ⟨rfl, rfl⟩))
    (fun os started H enc _ F => by rw [OpenClaim.pre_eq_preRow]; exact lifted os started H enc F)

theorem plain (f : FuncId) (fn : Func) (hf : Tryz.pinned.checked.prog.funcNamed "boathouse/boathouselaw18.Prunes" = some f) (hfn : Tryz.pinned.checked.prog.funcs[f]? = some fn) :
    false = Tryz.pinned.checked.prog.looks [] ∧ ∀ (j : Nat) t, fn.params[j]? = some t → Tryz.pinned.checked.prog.wantsStandIn t = false := by
  obtain rfl : f = 3 := Option.some.inj ((show Tryz.prog.funcNamed "boathouse/boathouselaw18.Prunes" = some 3 by kernel_rfl).symm.trans hf) |>.symm
  obtain rfl : fn = Tryz.f3 := (Option.some.inj (Tryz.func3.symm.trans hfn)).symm
  refine ⟨by kernel_rfl, fun j t ht => ?_⟩
  rw [Tryz.params3] at ht
  have hm : t ∈ [24, 27, 28, 3, 31, 32] := by simpa using Array.mem_of_getElem? ht
  have hall : ([24, 27, 28, 3, 31, 32].all fun u => !Tryz.prog.wantsStandIn u) = true := by kernel_rfl
  exact (show Tryz.prog.wantsStandIn t = false by simpa using List.all_eq_true.1 hall t hm)
end Go.Proofs.YtcgpfllkbflbhaaGreatDoor.prunes
namespace Go.Proofs.YtcgpfllkbflbhaaGreatDoor

/-- The law Prunes answers true for every input. -/
theorem prunes_card : Rows.PrunesCardSaid :=
  Claim7.holds_tied_plain_at .later [] _ _ _ _ prunes.said (fun _ h => by cases h) (by kernel_rfl) (fun _ h => by cases h) prunes_row_tie rfl ⟨rfl, rfl⟩ (by kernel_rfl) rfl prunes.plain (by kernel_rfl)
end Go.Proofs.YtcgpfllkbflbhaaGreatDoor
