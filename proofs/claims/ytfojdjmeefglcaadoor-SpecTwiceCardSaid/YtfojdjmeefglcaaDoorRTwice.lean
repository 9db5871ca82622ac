/-
  The law SpecTwice answers true for every input, and its card holds.
-/
import Derived.Test.YtfojdjmeefglcaaDoorOpSch
import Derived.Test.YtfojdjmeefglcaaDoorZj
import Derived.Test.YtfojdjmeefglcaaDoorOpV
import Derived.Test.YtfojdjmeefglcaaDoorFd
namespace Go.Proofs.YtfojdjmeefglcaaDoor
open Go.ChangeShapes Go.WideShapes Go.ChangeAt Go.RowKit

set_option maxRecDepth 100000 in
theorem o_fldA : Opens Tryd.prog 78 (fun f : Fld => [.int .i64 f.source, .int .i64 f.trans, .int .i64 f.param]) (fun _ _ => True) :=
  (opens_struct Tryd.underlying78 (tot := 3) (by kernel_rfl) (opensF_cons (by rfl) cells_int o_int (opensF_cons (by rfl) cells_int o_int (opensF_cons (by rfl) cells_int o_int (opensF_nil (by rfl)))))).map
    (fun p : Int × Int × Int × Unit => (⟨p.1, p.2.1, p.2.2.1⟩ : Fld)) (by intro _; rfl) (by intro w p h; trivial)
set_option maxRecDepth 100000 in
theorem o_valF : Opens Tryd.prog 73 (fun v : Val => [.int .i64 v.kind, .int .i64 v.i, .bool v.b, .string v.s]) (fun _ v => v.s.size ≤ 9223372036854775000 ∧ -9223372036854775808 ≤ v.i ∧ v.i ≤ 9223372036854775807) :=
  (opens_struct Tryd.underlying73 (tot := 4) (by kernel_rfl) (opensF_cons (by rfl) cells_int o_int (opensF_cons (by rfl) cells_int o_int (opensF_cons (by rfl) cells_bool o_bool (opensF_cons (by rfl) cells_str o_str (opensF_nil (by rfl))))))).map
    (fun p : Int × Int × Bool × ByteArray × Unit => (⟨p.1, p.2.1, p.2.2.1, p.2.2.2.1⟩ : Val)) (by intro _; rfl) (by
      intro w p h
      have h1 := bounds_i64 h.2.1
      have h2 := h.2.2.2.1.2
      simp only [reachBytes] at h2
      exact ⟨Nat.le_trans h2 (by decide), h1⟩)
end Go.Proofs.YtfojdjmeefglcaaDoor
namespace Go.Proofs.YtfojdjmeefglcaaDoor.specTwice
open Go.ChangeShapes Go.WideShapes Go.ChangeAt Go.RowKit

set_option maxRecDepth 100000 in
theorem contract (H : Type) (enc : TypeId × Value → H) (W : World) (base : Nat) (args : Array Value) (ds gs : List (DataW H)) (before : List MemPlace)
    (hval : ∀ (j : Nat) t v, Tryd.f11.params[j]? = some t → args[j]? = some v → Value.okWide Tryd.prog W .any base t v)
    (hW : DataW.Whole enc Tryd.prog Tryd.f11.params.toList Rows.specTwiceSpec.vars false W args.toList ds gs before)
    (hlim : (DataW.weightsEach Tryd.prog (Tryd.f11.params.toList ++ (OpenSpec.ofChange Rows.specTwiceSpec).bare.plain.varTypes Tryd.prog) (ds ++ gs)).all (· ≤ reachBytes) = true) :
    Calls Tryd.prog 11 args W fun e W' => ∃ v, e = .returned v ∧ Rows.specTwiceSpec.post enc Tryd.prog Tryd.f11 false true false false W args v W' := by
  obtain ⟨p, q, hA0, hV, hpq, hfz, hnd⟩ := id hW
  have hA : DataW.TrodAll enc Tryd.prog W 0 (fun _ => true) true Tryd.f11.params.toList args.toList ds p := hA0
  clear hA0
  obtain ⟨rfl, rfl⟩ := trodVars_none hV
  have hl := lim_each hlim
  rw [List.append_nil] at hl
  have hl : ∀ n ∈ DataW.weightsEach Tryd.prog [73, 3] ds, n ≤ reachBytes := hl
  rw [Tryd.params11] at hA hval
  obtain ⟨v0, vs0, d0, ds0, p0, q0, hargs, rfl, rfl, h0, r0⟩ := trodAll_cons hA
  obtain ⟨v1, vs1, d1, ds1, p1, q1, rfl, rfl, rfl, h1, r1⟩ := trodAll_cons r0
  obtain ⟨rfl, rfl, rfl⟩ := trodAll_nil r1
  obtain rfl : args = #[v0, v1] := by cases args; simp_all
  obtain ⟨l0, m0⟩ := lim_cons hl
  obtain ⟨l1, m1⟩ := lim_cons m0
  obtain ⟨x0, rfl, g0⟩ := o_valF.agg Tryd.underlying73 (hval 0 73 v0 rfl rfl) h0 l0
  obtain ⟨x1, rfl, g1⟩ := o_int.int Tryd.underlying3 (hval 1 3 v1 rfl rfl) h1 l1
  refine (twice_any x0 x1 W g0).mono fun e W' ⟨he, hb'⟩ => ?_
  subst he
  exact ⟨_, rfl, law_post (by kernel_rfl) (by kernel_rfl) rfl Tryd.underlying4 rfl rfl hW hb'.below⟩

theorem reads (os : Os) {H : Type} (enc : TypeId × Value → H) : ∃ places, DataW.whole enc Tryd.prog ((tabled os).forCall (fun _ _ => 0) ⟨#[], #[.agg #[.int .i64 0, .int .i64 0, .bool false, .string .empty], .int .i64 0], []⟩).memory Tryd.f11.params.toList Rows.specTwiceSpec.vars false (#[.agg #[.int .i64 0, .int .i64 0, .bool false, .string .empty], .int .i64 0] : Array Value).toList 8 = some ([.agg [.lit (.int .i64 0), .lit (.int .i64 0), .lit (.bool false), .lit (.string [])], .lit (.int .i64 0)], [], places) :=
  ⟨[], by kernel_rfl⟩

set_option maxRecDepth 100000 in
theorem lifted (os : Os) (started : os.Started) (H : Type) (enc : TypeId × Value → H) (F : Stop.Interp) :
    ReturnsInHanded {} Tryd.checked os 11 .any ((OpenSpec.ofChange Rows.specTwiceSpec).preRow enc Tryd.prog Tryd.f11 Rows.specTwiceRow.domain false Rows.specTwiceRow.laid) (((OpenSpec.ofChange Rows.specTwiceSpec).at F).post enc Tryd.prog Tryd.f11 false true false false) := by
  obtain ⟨places, hx⟩ := reads os enc
  refine returnsInHanded_of_row (C := Tryd.checked) (s := OpenSpec.ofChange Rows.specTwiceSpec) own started (by kernel_rfl) Tryd.func11
    (tabled_witness (enc := enc) #[.agg #[.int .i64 0, .int .i64 0, .bool false, .string .empty], .int .i64 0] 8 hx (by kernel_rfl) (by kernel_rfl) (fun k hk => by cases hk) (by kernel_rfl)) ?_
  intro W base args ds gs before hval hW _ hcond hlim _ _ _
  exact contract H enc W base args ds gs before hval hW hlim

theorem said : Rows.SpecTwiceSaid :=
  OpenClaim.holds_of_cond 11 Tryd.f11 rfl rfl rfl rfl rfl rfl rfl ⟨rfl, rfl, rfl, rfl, rfl⟩ rfl rfl rfl rfl rfl (by kernel_rfl) Tryd.func11 (by kernel_rfl)
    (of_decide_eq_true (by kernel_rfl)) (by unfold Func.isWrapper; first | (rw [if_pos (by decide +kernel)]; kernel_rfl) | (rw [if_neg (by decide +kernel)]; exact ⟨rfl, rfl⟩))
    (fun os started H enc _ F => by rw [OpenClaim.pre_eq_preRow]; exact lifted os started H enc F)

theorem plain (f : FuncId) (fn : Func) (hf : Tryd.pinned.checked.prog.funcNamed "boathouse/boathouselaw13.SpecTwice" = some f) (hfn : Tryd.pinned.checked.prog.funcs[f]? = some fn) :
    false = Tryd.pinned.checked.prog.looks [] ∧ ∀ (j : Nat) t, fn.params[j]? = some t → Tryd.pinned.checked.prog.wantsStandIn t = false := by
  obtain rfl : f = 11 := Option.some.inj ((show Tryd.prog.funcNamed "boathouse/boathouselaw13.SpecTwice" = some 11 by kernel_rfl).symm.trans hf) |>.symm
  obtain rfl : fn = Tryd.f11 := (Option.some.inj (Tryd.func11.symm.trans hfn)).symm
  refine ⟨by kernel_rfl, fun j t ht => ?_⟩
  rw [Tryd.params11] at ht
  have hm : t ∈ [73, 3] := by simpa using Array.mem_of_getElem? ht
  have hall : ([73, 3].all fun u => !Tryd.prog.wantsStandIn u) = true := by kernel_rfl
  exact (show Tryd.prog.wantsStandIn t = false by simpa using List.all_eq_true.1 hall t hm)
end Go.Proofs.YtfojdjmeefglcaaDoor.specTwice
namespace Go.Proofs.YtfojdjmeefglcaaDoor

/-- The law SpecTwice answers true for every input. -/
theorem specTwice_card : Rows.SpecTwiceCardSaid :=
  Claim7.holds_tied_plain_at .later [] _ _ _ _ specTwice.said (fun _ h => by cases h) (by kernel_rfl) (fun _ h => by cases h) specTwice_row_tie rfl ⟨rfl, rfl⟩ (by kernel_rfl) rfl specTwice.plain (by kernel_rfl)
end Go.Proofs.YtfojdjmeefglcaaDoor
