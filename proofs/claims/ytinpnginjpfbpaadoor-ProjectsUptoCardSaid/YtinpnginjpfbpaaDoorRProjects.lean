/-
  The law Projects answers true at arguments of bulk at most 1048576, and its card holds.
-/
import Derived.Test.YtinpnginjpfbpaaDoorOpSch
import Derived.Test.YtinpnginjpfbpaaDoorOpDat
import Derived.Test.YtinpnginjpfbpaaDoorVo
namespace Go.Proofs.YtinpnginjpfbpaaDoor.projects
open Go.ChangeShapes Go.WideShapes Go.ChangeAt Go.RowKit

set_option maxRecDepth 100000 in
theorem contract (H : Type) (enc : TypeId × Value → H) (W : World) (base : Nat) (args : Array Value) (ds gs : List (DataW H)) (before : List MemPlace)
    (hval : ∀ (j : Nat) t v, Tryd.f3.params[j]? = some t → args[j]? = some v → Value.okWide Tryd.prog W .any base t v)
    (hW : DataW.Whole enc Tryd.prog Tryd.f3.params.toList Rows.projectsSpec.vars false W args.toList ds gs before)
    (hlim : (DataW.weightsEach Tryd.prog (Tryd.f3.params.toList ++ (OpenSpec.ofChange Rows.projectsSpec).bare.plain.varTypes Tryd.prog) (ds ++ gs)).all (· ≤ reachBytes) = true) (hk : Rows.uptoSmall H (ds ++ gs) = true) :
    Calls Tryd.prog 3 args W fun e W' => ∃ v, e = .returned v ∧ Rows.projectsSpec.post enc Tryd.prog Tryd.f3 false true false false W args v W' := by
  obtain ⟨p, q, hA0, hV, hpq, hfz, hnd⟩ := id hW
  have hA : DataW.TrodAll enc Tryd.prog W 0 (fun _ => true) true Tryd.f3.params.toList args.toList ds p := hA0
  clear hA0
  obtain ⟨rfl, rfl⟩ := trodVars_none hV
  have hl := lim_each hlim
  rw [List.append_nil] at hl
  have hl : ∀ n ∈ DataW.weightsEach Tryd.prog [24, 27, 25, 28] ds, n ≤ reachBytes := hl
  rw [Tryd.params3] at hA hval
  obtain ⟨v0, vs0, d0, ds0, p0, q0, hargs, rfl, rfl, h0, r0⟩ := trodAll_cons hA
  obtain ⟨v1, vs1, d1, ds1, p1, q1, rfl, rfl, rfl, h1, r1⟩ := trodAll_cons r0
  obtain ⟨v2, vs2, d2, ds2, p2, q2, rfl, rfl, rfl, h2, r2⟩ := trodAll_cons r1
  obtain ⟨v3, vs3, d3, ds3, p3, q3, rfl, rfl, rfl, h3, r3⟩ := trodAll_cons r2
  obtain ⟨rfl, rfl, rfl⟩ := trodAll_nil r3
  obtain rfl : args = #[v0, v1, v2, v3] := by cases args; simp_all
  obtain ⟨l0, m0⟩ := lim_cons hl
  obtain ⟨l1, m1⟩ := lim_cons m0
  obtain ⟨l2, m2⟩ := lim_cons m1
  obtain ⟨l3, m3⟩ := lim_cons m2
  obtain ⟨x0, rfl, g0⟩ := o_sch.agg Tryd.underlying24 (hval 0 24 v0 rfl rfl) h0 l0
  obtain ⟨x1, rfl, g1⟩ := o_dat.agg Tryd.underlying27 (hval 1 27 v1 rfl rfl) h1 l1
  obtain ⟨x2, rfl, g2⟩ := o_rows.slice Tryd.underlying25 (hval 2 25 v2 rfl rfl) h2 l2
  obtain ⟨x3, rfl, g3⟩ := o_strs.slice Tryd.underlying28 (hval 3 28 v3 rfl rfl) h3 l3
  have hb := bulk_all hk
  have b3 := bulk_slice Tryd.underlying28 h3
  have c3 := bulk_mem (d := d3) (l := [d0, d1, d2, d3] ++ []) (by simp)
  refine (projects_any x0.1 x0.2.1 x0.2.2 x1 x2.2.2 x2.1 x2.2.1 x3.2.2 x3.1 x3.2.1 W g0 g1 g2 g3.2.2.1 (by omega)).mono fun e W' ⟨he, hb'⟩ => ?_
  subst he
  exact ⟨_, rfl, law_post (by kernel_rfl) (by kernel_rfl) rfl Tryd.underlying4 rfl rfl hW hb'.below⟩

theorem reads (os : Os) {H : Type} (enc : TypeId × Value → H) : ∃ places, DataW.whole enc Tryd.prog ((tabled os).forCall (fun _ _ => 0) ⟨#[], #[.agg #[.int .i64 0, .slice none 0 0, .int .i64 0], .agg #[.int .i64 0, .slice none 0 0, .slice none 0 0], .slice none 0 0, .slice none 0 0], []⟩).memory Tryd.f3.params.toList Rows.projectsSpec.vars false (#[.agg #[.int .i64 0, .slice none 0 0, .int .i64 0], .agg #[.int .i64 0, .slice none 0 0, .slice none 0 0], .slice none 0 0, .slice none 0 0] : Array Value).toList 8 = some ([.agg [.lit (.int .i64 0), .nil, .lit (.int .i64 0)], .agg [.lit (.int .i64 0), .nil, .nil], .nil, .nil], [], places) :=
  ⟨[], by kernel_rfl⟩

set_option maxRecDepth 100000 in
theorem lifted (os : Os) (started : os.Started) (H : Type) (enc : TypeId × Value → H) (F : Stop.Interp) :
    ReturnsInHanded {} Tryd.checked os 3 .any ((Rows.OpenSpec.upto Rows.projectsSpec).preRow enc Tryd.prog Tryd.f3 Rows.projectsUptoRow.domain false Rows.projectsUptoRow.laid) (((Rows.OpenSpec.upto Rows.projectsSpec).at F).post enc Tryd.prog Tryd.f3 false true false false) := by
  obtain ⟨places, hx⟩ := reads os enc
  refine returnsInHanded_of_row (C := Tryd.checked) (s := Rows.OpenSpec.upto Rows.projectsSpec) own started (by kernel_rfl) Tryd.func3
    (tabled_witness (enc := enc) #[.agg #[.int .i64 0, .slice none 0 0, .int .i64 0], .agg #[.int .i64 0, .slice none 0 0, .slice none 0 0], .slice none 0 0, .slice none 0 0] 8 hx (by kernel_rfl) (by kernel_rfl) (fun k hk => by cases hk; kernel_rfl) (by kernel_rfl)) ?_
  intro W base args ds gs before hval hW _ hcond hlim _ _ _
  exact contract H enc W base args ds gs before hval hW hlim (hcond _ rfl)

theorem said : Rows.ProjectsUptoSaid :=
  OpenClaim.holds_of_cond 3 Tryd.f3 rfl rfl rfl rfl rfl rfl rfl ⟨rfl, rfl, rfl, rfl, rfl⟩ rfl rfl rfl rfl rfl (by kernel_rfl) Tryd.func3 (by kernel_rfl)
    (of_decide_eq_true (by kernel_rfl)) (by unfold Func.isWrapper; first | (rw [if_pos (by decide +kernel)]; kernel_rfl) | (rw [if_neg (by decide +kernel)]; exact ⟨rfl, rfl⟩))
    (fun os started H enc _ F => by rw [OpenClaim.pre_eq_preRow]; exact lifted os started H enc F)

theorem plain (f : FuncId) (fn : Func) (hf : Tryd.pinned.checked.prog.funcNamed "boathouse/boathouselaw14.Projects" = some f) (hfn : Tryd.pinned.checked.prog.funcs[f]? = some fn) :
    false = Tryd.pinned.checked.prog.looks [] ∧ ∀ (j : Nat) t, fn.params[j]? = some t → Tryd.pinned.checked.prog.wantsStandIn t = false := by
  obtain rfl : f = 3 := Option.some.inj ((show Tryd.prog.funcNamed "boathouse/boathouselaw14.Projects" = some 3 by kernel_rfl).symm.trans hf) |>.symm
  obtain rfl : fn = Tryd.f3 := (Option.some.inj (Tryd.func3.symm.trans hfn)).symm
  refine ⟨by kernel_rfl, fun j t ht => ?_⟩
  rw [Tryd.params3] at ht
  have hm : t ∈ [24, 27, 25, 28] := by simpa using Array.mem_of_getElem? ht
  have hall : ([24, 27, 25, 28].all fun u => !Tryd.prog.wantsStandIn u) = true := by kernel_rfl
  exact (show Tryd.prog.wantsStandIn t = false by simpa using List.all_eq_true.1 hall t hm)
end Go.Proofs.YtinpnginjpfbpaaDoor.projects
namespace Go.Proofs.YtinpnginjpfbpaaDoor

/-- The law Projects answers true where what it reads is of bulk at most 1048576. -/
theorem projectsUpto_card : Rows.ProjectsUptoCardSaid :=
  Claim7.holds_tied_plain_at .later [] _ _ _ _ projects.said (fun _ h => by cases h) (by kernel_rfl) (fun _ h => by cases h) projectsUpto_row_tie rfl ⟨rfl, rfl⟩ (by kernel_rfl) rfl projects.plain (by kernel_rfl)
end Go.Proofs.YtinpnginjpfbpaaDoor
