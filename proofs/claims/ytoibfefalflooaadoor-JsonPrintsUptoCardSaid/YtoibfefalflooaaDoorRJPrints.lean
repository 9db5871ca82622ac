/-
  The law JsonPrints answers true at arguments of bulk at most 1048576, and its card holds.
-/
import Derived.Test.YtoibfefalflooaaDoorOpB
import Derived.Test.YtoibfefalflooaaDoorMf
namespace Go.Proofs.YtoibfefalflooaaDoor.jsonPrints
open Go.ChangeShapes Go.WideShapes Go.ChangeAt Go.RowKit

set_option maxRecDepth 100000 in
theorem contract (H : Type) (enc : TypeId × Value → H) (W : World) (base : Nat) (args : Array Value) (ds gs : List (DataW H)) (before : List MemPlace)
    (hval : ∀ (j : Nat) t v, Tryd.f4.params[j]? = some t → args[j]? = some v → Value.okWide Tryd.prog W .any base t v)
    (hW : DataW.Whole enc Tryd.prog Tryd.f4.params.toList Rows.jsonPrintsSpec.vars false W args.toList ds gs before)
    (hlim : (DataW.weightsEach Tryd.prog (Tryd.f4.params.toList ++ (OpenSpec.ofChange Rows.jsonPrintsSpec).bare.plain.varTypes Tryd.prog) (ds ++ gs)).all (· ≤ reachBytes) = true) (hlaid : laidMetH Tryd.prog Rows.jsonPrintsUptoRow.laid W) (hk : Rows.uptoSmall H (ds ++ gs) = true) :
    Calls Tryd.prog 4 args W fun e W' => ∃ v, e = .returned v ∧ Rows.jsonPrintsSpec.post enc Tryd.prog Tryd.f4 false true false false W args v W' := by
  obtain ⟨p, q, hA0, hV, hpq, hfz, hnd⟩ := id hW
  have hA : DataW.TrodAll enc Tryd.prog W 0 (fun _ => true) true Tryd.f4.params.toList args.toList ds p := hA0
  clear hA0
  obtain ⟨rfl, rfl⟩ := trodVars_none hV
  have hl := lim_each hlim
  rw [List.append_nil] at hl
  have hl : ∀ n ∈ DataW.weightsEach Tryd.prog [25, 9] ds, n ≤ reachBytes := hl
  rw [Tryd.params4] at hA hval
  obtain ⟨v0, vs0, d0, ds0, p0, q0, hargs, rfl, rfl, h0, r0⟩ := trodAll_cons hA
  obtain ⟨v1, vs1, d1, ds1, p1, q1, rfl, rfl, rfl, h1, r1⟩ := trodAll_cons r0
  obtain ⟨rfl, rfl, rfl⟩ := trodAll_nil r1
  obtain rfl : args = #[v0, v1] := by cases args; simp_all
  obtain ⟨l0, m0⟩ := lim_cons hl
  obtain ⟨l1, m1⟩ := lim_cons m0
  obtain ⟨x0, rfl, g0⟩ := o_jsonB (hval 0 25 v0 rfl rfl) h0 l0
  obtain ⟨x1, rfl, g1⟩ := o_str.string Tryd.underlying9 (hval 1 9 v1 rfl rfl) h1 l1
  have hb := bulk_all hk
  have c0 := bulk_mem (d := d0) (l := [d0, d1] ++ []) (by simp)
  have ht := tab_of (l := Rows.jsonPrintsUptoRow.laid) (by kernel_rfl) hlaid
  refine (jsonPrints_any x0 x1 W ht g0.1 (g0.2 (by omega))).mono fun e W' ⟨he, hb'⟩ => ?_
  subst he
  exact ⟨_, rfl, law_post (by kernel_rfl) (by kernel_rfl) rfl Tryd.underlying4 rfl rfl hW hb'.below⟩

theorem reads (os : Os) {H : Type} (enc : TypeId × Value → H) : ∃ places, DataW.whole enc Tryd.prog ((tabled os).forCall (fun _ _ => 0) ⟨#[], #[.agg #[.int .i64 0, .bool false, .int .i64 0, .string .empty, .slice none 0 0, .slice none 0 0], .string .empty], []⟩).memory Tryd.f4.params.toList Rows.jsonPrintsSpec.vars false (#[.agg #[.int .i64 0, .bool false, .int .i64 0, .string .empty, .slice none 0 0, .slice none 0 0], .string .empty] : Array Value).toList 8 = some ([.agg [.lit (.int .i64 0), .lit (.bool false), .lit (.int .i64 0), .lit (.string []), .nil, .nil], .lit (.string [])], [], places) :=
  ⟨[], by kernel_rfl⟩

set_option maxRecDepth 100000 in
theorem lifted (os : Os) (started : os.Started) (H : Type) (enc : TypeId × Value → H) (F : Stop.Interp) :
    ReturnsInHanded {} Tryd.checked os 4 .any ((Rows.OpenSpec.upto Rows.jsonPrintsSpec).preRow enc Tryd.prog Tryd.f4 Rows.jsonPrintsUptoRow.domain false Rows.jsonPrintsUptoRow.laid) (((Rows.OpenSpec.upto Rows.jsonPrintsSpec).at F).post enc Tryd.prog Tryd.f4 false true false false) := by
  obtain ⟨places, hx⟩ := reads os enc
  refine returnsInHanded_of_row (C := Tryd.checked) (s := Rows.OpenSpec.upto Rows.jsonPrintsSpec) own started (by kernel_rfl) Tryd.func4
    (tabled_witness (enc := enc) #[.agg #[.int .i64 0, .bool false, .int .i64 0, .string .empty, .slice none 0 0, .slice none 0 0], .string .empty] 8 hx (by kernel_rfl) (by kernel_rfl) (fun k hk => by cases hk; kernel_rfl) (by kernel_rfl)) ?_
  intro W base args ds gs before hval hW _ hcond hlim hlaid _ _
  exact contract H enc W base args ds gs before hval hW hlim hlaid (hcond _ rfl)

theorem said : Rows.JsonPrintsUptoSaid :=
  OpenClaim.holds_of_cond 4 Tryd.f4 rfl rfl rfl rfl rfl rfl rfl ⟨rfl, rfl, rfl, rfl, rfl⟩ rfl rfl rfl rfl rfl (by kernel_rfl) Tryd.func4 (by kernel_rfl)
    (of_decide_eq_true (by kernel_rfl)) (by unfold Func.isWrapper; first | (rw [if_pos (by decide +kernel)]; kernel_rfl) | (rw [if_neg (by decide +kernel)]; exact ⟨rfl, rfl⟩))
    (fun os started H enc _ F => by rw [OpenClaim.pre_eq_preRow]; exact lifted os started H enc F)

theorem plain (f : FuncId) (fn : Func) (hf : Tryd.pinned.checked.prog.funcNamed "boathouse/boathouselaw3.JsonPrints" = some f) (hfn : Tryd.pinned.checked.prog.funcs[f]? = some fn) :
    true = Tryd.pinned.checked.prog.looks [] ∧ ∀ (j : Nat) t, fn.params[j]? = some t → Tryd.pinned.checked.prog.wantsStandIn t = false := by
  obtain rfl : f = 4 := Option.some.inj ((show Tryd.prog.funcNamed "boathouse/boathouselaw3.JsonPrints" = some 4 by kernel_rfl).symm.trans hf) |>.symm
  obtain rfl : fn = Tryd.f4 := (Option.some.inj (Tryd.func4.symm.trans hfn)).symm
  refine ⟨by kernel_rfl, fun j t ht => ?_⟩
  rw [Tryd.params4] at ht
  have hm : t ∈ [25, 9] := by simpa using Array.mem_of_getElem? ht
  have hall : ([25, 9].all fun u => !Tryd.prog.wantsStandIn u) = true := by kernel_rfl
  exact (show Tryd.prog.wantsStandIn t = false by simpa using List.all_eq_true.1 hall t hm)
end Go.Proofs.YtoibfefalflooaaDoor.jsonPrints
namespace Go.Proofs.YtoibfefalflooaaDoor

/-- The law JsonPrints answers true where what it reads is of bulk at most 1048576. -/
theorem jsonPrintsUpto_card : Rows.JsonPrintsUptoCardSaid :=
  Claim7.holds_tied_plain_at .later [] _ _ _ _ jsonPrints.said (fun _ h => by cases h) (by kernel_rfl) (fun _ h => by cases h) jsonPrintsUpto_row_tie rfl ⟨rfl, rfl⟩ (by kernel_rfl) rfl jsonPrints.plain (by kernel_rfl)
end Go.Proofs.YtoibfefalflooaaDoor
