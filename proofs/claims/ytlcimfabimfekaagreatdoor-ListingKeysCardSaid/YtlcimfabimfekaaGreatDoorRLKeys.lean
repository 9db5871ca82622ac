/-
  The law ListingKeys answers true for every input, and its card holds.
-/
import Derived.Test.YtlcimfabimfekaaGreatDoorOpK
import Derived.Test.YtlcimfabimfekaaGreatDoorLj
namespace Go.Proofs.YtlcimfabimfekaaGreatDoor.listingKeys
open Go.ChangeShapes Go.WideShapes Go.ChangeAt Go.RowKit

set_option maxRecDepth 100000 in
theorem contract (H : Type) (enc : TypeId × Value → H) (W : World) (base : Nat) (args : Array Value) (ds gs : List (DataW H)) (before : List MemPlace)
    (hval : ∀ (j : Nat) t v, Tryz.f3.params[j]? = some t → args[j]? = some v → Value.okWide Tryz.prog W .any base t v)
    (hW : DataW.Whole enc Tryz.prog Tryz.f3.params.toList Rows.listingKeysSpec.vars false W args.toList ds gs before)
    (hlim : (DataW.weightsEach Tryz.prog (Tryz.f3.params.toList ++ (OpenSpec.ofChange Rows.listingKeysSpec).bare.plain.varTypes Tryz.prog) (ds ++ gs)).all (· ≤ reachBytes) = true) (hlaid : laidMetH Tryz.prog Rows.listingKeysRow.laid W) :
    Calls Tryz.prog 3 args W fun e W' => ∃ v, e = .returned v ∧ Rows.listingKeysSpec.post enc Tryz.prog Tryz.f3 false true false false W args v W' := by
  obtain ⟨p, q, hA0, hV, hpq, hfz, hnd⟩ := id hW
  have hA : DataW.TrodAll enc Tryz.prog W 0 (fun _ => true) true Tryz.f3.params.toList args.toList ds p := hA0
  clear hA0
  obtain ⟨rfl, rfl⟩ := trodVars_none hV
  have hl := lim_each hlim
  rw [List.append_nil] at hl
  have hl : ∀ n ∈ DataW.weightsEach Tryz.prog [3, 9] ds, n ≤ reachBytes := hl
  rw [Tryz.params3] at hA hval
  obtain ⟨v0, vs0, d0, ds0, p0, q0, hargs, rfl, rfl, h0, r0⟩ := trodAll_cons hA
  obtain ⟨v1, vs1, d1, ds1, p1, q1, rfl, rfl, rfl, h1, r1⟩ := trodAll_cons r0
  obtain ⟨rfl, rfl, rfl⟩ := trodAll_nil r1
  obtain rfl : args = #[v0, v1] := by cases args; simp_all
  obtain ⟨l0, m0⟩ := lim_cons hl
  obtain ⟨l1, m1⟩ := lim_cons m0
  obtain ⟨x0, rfl, g0⟩ := o_int.int Tryz.underlying3 (hval 0 3 v0 rfl rfl) h0 l0
  obtain ⟨x1, rfl, g1⟩ := o_str.string Tryz.underlying9 (hval 1 9 v1 rfl rfl) h1 l1
  have ht := tab_of (l := Rows.listingKeysRow.laid) (by kernel_rfl) hlaid
  refine (lkeys_any x0 x1 W (bounds_i64 g0) (by have := g1.2; simp only [reachBytes] at this; omega) ht).mono fun e W' ⟨he, hb'⟩ => ?_
  subst he
  exact ⟨_, rfl, law_post (by kernel_rfl) (by kernel_rfl) rfl Tryz.underlying4 rfl rfl hW hb'.below⟩

theorem reads (os : Os) {H : Type} (enc : TypeId × Value → H) : ∃ places, DataW.whole enc Tryz.prog ((tabled os).forCall (fun _ _ => 0) ⟨#[], #[.int .i64 0, .string .empty], []⟩).memory Tryz.f3.params.toList Rows.listingKeysSpec.vars false (#[.int .i64 0, .string .empty] : Array Value).toList 8 = some ([.lit (.int .i64 0), .lit (.string [])], [], places) :=
  ⟨[], by kernel_rfl⟩

set_option maxRecDepth 100000 in
theorem lifted (os : Os) (started : os.Started) (H : Type) (enc : TypeId × Value → H) (F : Stop.Interp) :
    ReturnsInHanded {} Tryz.checked os 3 .any ((OpenSpec.ofChange Rows.listingKeysSpec).preRow enc Tryz.prog Tryz.f3 Rows.listingKeysRow.domain false Rows.listingKeysRow.laid) (((OpenSpec.ofChange Rows.listingKeysSpec).at F).post enc Tryz.prog Tryz.f3 false true false false) := by
  obtain ⟨places, hx⟩ := reads os enc
  refine returnsInHanded_of_row (C := Tryz.checked) (s := OpenSpec.ofChange Rows.listingKeysSpec) own started (by kernel_rfl) Tryz.func3
    (tabled_witness (enc := enc) #[.int .i64 0, .string .empty] 8 hx (by kernel_rfl) (by kernel_rfl) (fun k hk => by cases hk) (by kernel_rfl)) ?_
  intro W base args ds gs before hval hW _ hcond hlim hlaid _ _
  exact contract H enc W base args ds gs before hval hW hlim hlaid

theorem said : Rows.ListingKeysSaid :=
  OpenClaim.holds_of_cond 3 Tryz.f3 rfl rfl rfl rfl rfl rfl rfl ⟨rfl, rfl, rfl, rfl, rfl⟩ rfl rfl rfl rfl rfl (by kernel_rfl) Tryz.func3 (by kernel_rfl)
    (of_decide_eq_true (by kernel_rfl)) (by unfold Func.isWrapper; first | (rw [if_pos (by decide +kernel)]; kernel_rfl) | (rw [if_neg (by decide +kernel)]; exact ⟨rfl, rfl⟩))
    (fun os started H enc _ F => by rw [OpenClaim.pre_eq_preRow]; exact lifted os started H enc F)

theorem plain (f : FuncId) (fn : Func) (hf : Tryz.pinned.checked.prog.funcNamed "boathouse/boathouselaw22.ListingKeys" = some f) (hfn : Tryz.pinned.checked.prog.funcs[f]? = some fn) :
    true = Tryz.pinned.checked.prog.looks [] ∧ ∀ (j : Nat) t, fn.params[j]? = some t → Tryz.pinned.checked.prog.wantsStandIn t = false := by
  obtain rfl : f = 3 := Option.some.inj ((show Tryz.prog.funcNamed "boathouse/boathouselaw22.ListingKeys" = some 3 by kernel_rfl).symm.trans hf) |>.symm
  obtain rfl : fn = Tryz.f3 := (Option.some.inj (Tryz.func3.symm.trans hfn)).symm
  refine ⟨by kernel_rfl, fun j t ht => ?_⟩
  rw [Tryz.params3] at ht
  have hm : t ∈ [3, 9] := by simpa using Array.mem_of_getElem? ht
  have hall : ([3, 9].all fun u => !Tryz.prog.wantsStandIn u) = true := by kernel_rfl
  exact (show Tryz.prog.wantsStandIn t = false by simpa using List.all_eq_true.1 hall t hm)
end Go.Proofs.YtlcimfabimfekaaGreatDoor.listingKeys
namespace Go.Proofs.YtlcimfabimfekaaGreatDoor

/-- The law ListingKeys answers true for every input. -/
theorem listingKeys_card : Rows.ListingKeysCardSaid :=
  Claim7.holds_tied_plain_at .later [] _ _ _ _ listingKeys.said (fun _ h => by cases h) (by kernel_rfl) (fun _ h => by cases h) listingKeys_row_tie rfl ⟨rfl, rfl⟩ (by kernel_rfl) rfl listingKeys.plain (by kernel_rfl)
end Go.Proofs.YtlcimfabimfekaaGreatDoor
