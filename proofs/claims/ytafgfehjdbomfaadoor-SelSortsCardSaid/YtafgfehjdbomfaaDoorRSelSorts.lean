/-
  The law SelSorts answers true for every input, and its card holds.
-/
import Derived.Test.YtafgfehjdbomfaaDoorOpSch
import Derived.Test.YtafgfehjdbomfaaDoorOpRo
import Derived.Test.YtafgfehjdbomfaaDoorKj
namespace Go.Proofs.YtafgfehjdbomfaaDoor.selSorts
open Go.ChangeShapes Go.WideShapes Go.ChangeAt Go.RowKit

set_option maxRecDepth 100000 in
theorem contract (H : Type) (enc : TypeId × Value → H) (W : World) (base : Nat) (args : Array Value) (ds gs : List (DataW H)) (before : List MemPlace)
    (hval : ∀ (j : Nat) t v, Tryd.f4.params[j]? = some t → args[j]? = some v → Value.okWide Tryd.prog W .any base t v)
    (hW : DataW.Whole enc Tryd.prog Tryd.f4.params.toList Rows.selSortsSpec.vars false W args.toList ds gs before)
    (hlim : (DataW.weightsEach Tryd.prog (Tryd.f4.params.toList ++ (OpenSpec.ofChange Rows.selSortsSpec).bare.plain.varTypes Tryd.prog) (ds ++ gs)).all (· ≤ reachBytes) = true) :
    Calls Tryd.prog 4 args W fun e W' => ∃ v, e = .returned v ∧ Rows.selSortsSpec.post enc Tryd.prog Tryd.f4 false true false false W args v W' := by
  obtain ⟨p, q, hA0, hV, hpq, hfz, hnd⟩ := id hW
  have hA : DataW.TrodAll enc Tryd.prog W 0 (fun _ => true) true Tryd.f4.params.toList args.toList ds p := hA0
  clear hA0
  obtain ⟨rfl, rfl⟩ := trodVars_none hV
  have hl := lim_each hlim
  rw [List.append_nil] at hl
  have hl : ∀ n ∈ DataW.weightsEach Tryd.prog [28] ds, n ≤ reachBytes := hl
  rw [Tryd.params4] at hA hval
  obtain ⟨v0, vs0, d0, ds0, p0, q0, hargs, rfl, rfl, h0, r0⟩ := trodAll_cons hA
  obtain ⟨rfl, rfl, rfl⟩ := trodAll_nil r0
  obtain rfl : args = #[v0] := by cases args; simp_all
  obtain ⟨l0, m0⟩ := lim_cons hl
  obtain ⟨x0, rfl, g0⟩ := o_rows.slice Tryd.underlying28 (hval 0 28 v0 rfl rfl) h0 l0
  refine (ssorts_any x0.2.2 x0.1 x0.2.1 W g0).mono fun e W' ⟨he, hb'⟩ => ?_
  subst he
  exact ⟨_, rfl, law_post (by kernel_rfl) (by kernel_rfl) rfl Tryd.underlying4 rfl rfl hW hb'.below⟩

theorem reads (os : Os) {H : Type} (enc : TypeId × Value → H) : ∃ places, DataW.whole enc Tryd.prog ((tabled os).forCall (fun _ _ => 0) ⟨#[], #[.slice none 0 0], []⟩).memory Tryd.f4.params.toList Rows.selSortsSpec.vars false (#[.slice none 0 0] : Array Value).toList 8 = some ([.nil], [], places) :=
  ⟨[], by kernel_rfl⟩

set_option maxRecDepth 100000 in
theorem lifted (os : Os) (started : os.Started) (H : Type) (enc : TypeId × Value → H) (F : Stop.Interp) :
    ReturnsInHanded {} Tryd.checked os 4 .any ((OpenSpec.ofChange Rows.selSortsSpec).preRow enc Tryd.prog Tryd.f4 Rows.selSortsRow.domain false Rows.selSortsRow.laid) (((OpenSpec.ofChange Rows.selSortsSpec).at F).post enc Tryd.prog Tryd.f4 false true false false) := by
  obtain ⟨places, hx⟩ := reads os enc
  refine returnsInHanded_of_row (C := Tryd.checked) (s := OpenSpec.ofChange Rows.selSortsSpec) own started (by kernel_rfl) Tryd.func4
    (tabled_witness (enc := enc) #[.slice none 0 0] 8 hx (by kernel_rfl) (by kernel_rfl) (fun k hk => by cases hk) (by kernel_rfl)) ?_
  intro W base args ds gs before hval hW _ hcond hlim _ _ _
  exact contract H enc W base args ds gs before hval hW hlim

theorem said : Rows.SelSortsSaid :=
  OpenClaim.holds_of_cond 4 Tryd.f4 rfl rfl rfl rfl rfl rfl rfl ⟨rfl, rfl, rfl, rfl, rfl⟩ rfl rfl rfl rfl rfl (by kernel_rfl) Tryd.func4 (by kernel_rfl)
    (of_decide_eq_true (by kernel_rfl)) (by unfold Func.isWrapper; first | (rw [if_pos (by decide +kernel)]; kernel_rfl) | (rw [if_neg (by decide +kernel)]; exact ⟨rfl, rfl⟩))
    (fun os started H enc _ F => by rw [OpenClaim.pre_eq_preRow]; exact lifted os started H enc F)

theorem plain (f : FuncId) (fn : Func) (hf : Tryd.pinned.checked.prog.funcNamed "boathouse/boathouselaw16.SelSorts" = some f) (hfn : Tryd.pinned.checked.prog.funcs[f]? = some fn) :
    true = Tryd.pinned.checked.prog.looks [] ∧ ∀ (j : Nat) t, fn.params[j]? = some t → Tryd.pinned.checked.prog.wantsStandIn t = false := by
  obtain rfl : f = 4 := Option.some.inj ((show Tryd.prog.funcNamed "boathouse/boathouselaw16.SelSorts" = some 4 by kernel_rfl).symm.trans hf) |>.symm
  obtain rfl : fn = Tryd.f4 := (Option.some.inj (Tryd.func4.symm.trans hfn)).symm
  refine ⟨by kernel_rfl, fun j t ht => ?_⟩
  rw [Tryd.params4] at ht
  have hm : t ∈ [28] := by simpa using Array.mem_of_getElem? ht
  have hall : ([28].all fun u => !Tryd.prog.wantsStandIn u) = true := by kernel_rfl
  exact (show Tryd.prog.wantsStandIn t = false by simpa using List.all_eq_true.1 hall t hm)
end Go.Proofs.YtafgfehjdbomfaaDoor.selSorts
namespace Go.Proofs.YtafgfehjdbomfaaDoor

/-- The law SelSorts answers true for every input. -/
theorem selSorts_card : Rows.SelSortsCardSaid :=
  Claim7.holds_tied_plain_at .later [] _ _ _ _ selSorts.said (fun _ h => by cases h) (by kernel_rfl) (fun _ h => by cases h) selSorts_row_tie rfl ⟨rfl, rfl⟩ (by kernel_rfl) rfl selSorts.plain (by kernel_rfl)
end Go.Proofs.YtafgfehjdbomfaaDoor
