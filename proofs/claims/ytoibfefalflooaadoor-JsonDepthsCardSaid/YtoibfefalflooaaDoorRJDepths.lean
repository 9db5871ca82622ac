/-
  The law JsonDepths answers true for every input, and its card holds.
-/
import Derived.Test.YtoibfefalflooaaDoorOpJ
import Derived.Test.YtoibfefalflooaaDoorMc
namespace Go.Proofs.YtoibfefalflooaaDoor.jsonDepths
open Go.ChangeShapes Go.WideShapes Go.ChangeAt Go.RowKit

set_option maxRecDepth 100000 in
theorem contract (H : Type) (enc : TypeId × Value → H) (W : World) (base : Nat) (args : Array Value) (ds gs : List (DataW H)) (before : List MemPlace)
    (hval : ∀ (j : Nat) t v, Tryd.f7.params[j]? = some t → args[j]? = some v → Value.okWide Tryd.prog W .any base t v)
    (hW : DataW.Whole enc Tryd.prog Tryd.f7.params.toList Rows.jsonDepthsSpec.vars false W args.toList ds gs before)
    (hlim : (DataW.weightsEach Tryd.prog (Tryd.f7.params.toList ++ (OpenSpec.ofChange Rows.jsonDepthsSpec).bare.plain.varTypes Tryd.prog) (ds ++ gs)).all (· ≤ reachBytes) = true) (hlaid : laidMetH Tryd.prog Rows.jsonDepthsRow.laid W) :
    Calls Tryd.prog 7 args W fun e W' => ∃ v, e = .returned v ∧ Rows.jsonDepthsSpec.post enc Tryd.prog Tryd.f7 false true false false W args v W' := by
  obtain ⟨p, q, hA0, hV, hpq, hfz, hnd⟩ := id hW
  have hA : DataW.TrodAll enc Tryd.prog W 0 (fun _ => true) true Tryd.f7.params.toList args.toList ds p := hA0
  clear hA0
  obtain ⟨rfl, rfl⟩ := trodVars_none hV
  have hl := lim_each hlim
  rw [List.append_nil] at hl
  have hl : ∀ n ∈ DataW.weightsEach Tryd.prog [3, 4] ds, n ≤ reachBytes := hl
  rw [Tryd.params7] at hA hval
  obtain ⟨v0, vs0, d0, ds0, p0, q0, hargs, rfl, rfl, h0, r0⟩ := trodAll_cons hA
  obtain ⟨v1, vs1, d1, ds1, p1, q1, rfl, rfl, rfl, h1, r1⟩ := trodAll_cons r0
  obtain ⟨rfl, rfl, rfl⟩ := trodAll_nil r1
  obtain rfl : args = #[v0, v1] := by cases args; simp_all
  obtain ⟨l0, m0⟩ := lim_cons hl
  obtain ⟨l1, m1⟩ := lim_cons m0
  obtain ⟨x0, rfl, g0⟩ := o_int.int Tryd.underlying3 (hval 0 3 v0 rfl rfl) h0 l0
  obtain ⟨x1, rfl, g1⟩ := o_bool.bool Tryd.underlying4 (hval 1 4 v1 rfl rfl) h1 l1
  have ht := tab_of (l := Rows.jsonDepthsRow.laid) (by kernel_rfl) hlaid
  refine (jsonDepths_any x0 x1 W ht).mono fun e W' ⟨he, hb'⟩ => ?_
  subst he
  exact ⟨_, rfl, law_post (by kernel_rfl) (by kernel_rfl) rfl Tryd.underlying4 rfl rfl hW hb'.below⟩

theorem reads (os : Os) {H : Type} (enc : TypeId × Value → H) : ∃ places, DataW.whole enc Tryd.prog ((tabled os).forCall (fun _ _ => 0) ⟨#[], #[.int .i64 0, .bool false], []⟩).memory Tryd.f7.params.toList Rows.jsonDepthsSpec.vars false (#[.int .i64 0, .bool false] : Array Value).toList 8 = some ([.lit (.int .i64 0), .lit (.bool false)], [], places) :=
  ⟨[], by kernel_rfl⟩

set_option maxRecDepth 100000 in
theorem lifted (os : Os) (started : os.Started) (H : Type) (enc : TypeId × Value → H) (F : Stop.Interp) :
    ReturnsInHanded {} Tryd.checked os 7 .any ((OpenSpec.ofChange Rows.jsonDepthsSpec).preRow enc Tryd.prog Tryd.f7 Rows.jsonDepthsRow.domain false Rows.jsonDepthsRow.laid) (((OpenSpec.ofChange Rows.jsonDepthsSpec).at F).post enc Tryd.prog Tryd.f7 false true false false) := by
  obtain ⟨places, hx⟩ := reads os enc
  refine returnsInHanded_of_row (C := Tryd.checked) (s := OpenSpec.ofChange Rows.jsonDepthsSpec) own started (by kernel_rfl) Tryd.func7
    (tabled_witness (enc := enc) #[.int .i64 0, .bool false] 8 hx (by kernel_rfl) (by kernel_rfl) (fun k hk => by cases hk) (by kernel_rfl)) ?_
  intro W base args ds gs before hval hW _ hcond hlim hlaid _ _
  exact contract H enc W base args ds gs before hval hW hlim hlaid

theorem said : Rows.JsonDepthsSaid :=
  OpenClaim.holds_of_cond 7 Tryd.f7 rfl rfl rfl rfl rfl rfl rfl ⟨rfl, rfl, rfl, rfl, rfl⟩ rfl rfl rfl rfl rfl (by kernel_rfl) Tryd.func7 (by kernel_rfl)
    (of_decide_eq_true (by kernel_rfl)) (by unfold Func.isWrapper; first | (rw [if_pos (by decide +kernel)]; kernel_rfl) | (rw [if_neg (by decide +kernel)]; exact ⟨rfl, rfl⟩))
    (fun os started H enc _ F => by rw [OpenClaim.pre_eq_preRow]; exact lifted os started H enc F)

theorem plain (f : FuncId) (fn : Func) (hf : Tryd.pinned.checked.prog.funcNamed "boathouse/boathouselaw3.JsonDepths" = some f) (hfn : Tryd.pinned.checked.prog.funcs[f]? = some fn) :
    true = Tryd.pinned.checked.prog.looks [] ∧ ∀ (j : Nat) t, fn.params[j]? = some t → Tryd.pinned.checked.prog.wantsStandIn t = false := by
  obtain rfl : f = 7 := Option.some.inj ((show Tryd.prog.funcNamed "boathouse/boathouselaw3.JsonDepths" = some 7 by kernel_rfl).symm.trans hf) |>.symm
  obtain rfl : fn = Tryd.f7 := (Option.some.inj (Tryd.func7.symm.trans hfn)).symm
  refine ⟨by kernel_rfl, fun j t ht => ?_⟩
  rw [Tryd.params7] at ht
  have hm : t ∈ [3, 4] := by simpa using Array.mem_of_getElem? ht
  have hall : ([3, 4].all fun u => !Tryd.prog.wantsStandIn u) = true := by kernel_rfl
  exact (show Tryd.prog.wantsStandIn t = false by simpa using List.all_eq_true.1 hall t hm)
end Go.Proofs.YtoibfefalflooaaDoor.jsonDepths
namespace Go.Proofs.YtoibfefalflooaaDoor

/-- The law JsonDepths answers true for every input. -/
theorem jsonDepths_card : Rows.JsonDepthsCardSaid :=
  Claim7.holds_tied_plain_at .later [] _ _ _ _ jsonDepths.said (fun _ h => by cases h) (by kernel_rfl) (fun _ h => by cases h) jsonDepths_row_tie rfl ⟨rfl, rfl⟩ (by kernel_rfl) rfl jsonDepths.plain (by kernel_rfl)
end Go.Proofs.YtoibfefalflooaaDoor
