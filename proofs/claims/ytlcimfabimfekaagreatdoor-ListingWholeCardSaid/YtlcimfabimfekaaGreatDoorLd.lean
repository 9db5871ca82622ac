/-
  listing.Key, CheckKey, Version: a version's key, a key's version.
-/
import Derived.Test.YtlcimfabimfekaaGreatDoorLb
import Derived.Test.YtlcimfabimfekaaGreatDoorLsh
import Derived.Test.YtlcimfabimfekaaGreatDoorTrim
namespace Go.Proofs.YtlcimfabimfekaaGreatDoor
open Go.RowKit

/-- The library's table of the powers of ten lies where the start laid it. -/
structure Tab (w : World) : Prop where
  at_ : Lib.TabIs Tryz.prog w "internal/strconv.uint64pow10" .u64 Lib.pow10Tab
theorem Tab.fut {w w' : World} (h : Tab w) [k : Fut w w'] : Tab w' := by
  have h1 := h.at_
  refine ⟨?_⟩
  unfold Lib.TabIs World.var? at h1 ⊢
  cases hg : Tryz.prog.globalNamed "internal/strconv.uint64pow10" with
  | none => rw [hg] at h1; cases h1
  | some g =>
    rw [hg] at h1
    simp only [Option.bind_some] at h1 ⊢
    have hlt : g < w.heap.size := by
      cases e : w.heap[g]? with
      | none => rw [e] at h1; cases h1
      | some o => exact (Array.getElem?_eq_some_iff.1 e).1
    rw [k.below.block g hlt]
    exact h1
theorem below_grow (w : World) (q : Nat) (os : Array Obj) : Below w.heap.size w (Sort.grow (w.drewN q) os) :=
  ⟨rfl, rfl, rfl, by simp [Sort.grow], fun k hk => by simp [Sort.grow, Array.getElem?_append, hk]⟩
theorem rep_zeros (r : Nat) : Lib.repeatL [48] r = List.replicate r 48 := by
  induction r with
  | zero => rfl
  | succ r ih => rw [Lib.repeatL, ih, List.replicate_succ]; rfl

set_option maxRecDepth 100000 in
set_option maxHeartbeats 4000000 in
theorem pkeyT_any {w0 : World} (v : Int) (c : Bool) (T : ByteArray) (hT : T = ofL (tailL c)) (w : World) (hv : -9223372036854775808 ≤ v ∧ v ≤ 9223372036854775807) (ht : Tab w0) [f0 : Fut w0 w] :
    Calls Tryz.prog 20 #[.int .i64 v, .string T] w fun e w' => e = .returned (.tuple #[.string (keyS v c), .int .i64 (keyE v)]) ∧ Step w w' := by
  by_cases h0 : v < 0
  · rw [key_bad (.inl h0), keyE_bad (.inl h0)]
    go_enter Tryz.func20, Tryz.ntmps20
    go_wp2_with fail
    go_ret2
    exact ⟨rfl, Step.of⟩
  by_cases h1 : 2147483647 < v
  · rw [key_bad (.inr h1), keyE_bad (.inr h1)]
    have h2 : decide (v > 2147483647) = true := by simpa using h1
    go_enter Tryz.func20, Tryz.ntmps20
    go_wp2_with fail
    go_ret2
    exact ⟨rfl, Step.of⟩
  rw [keyE_good (by omega)]
  obtain ⟨n, rfl⟩ : ∃ n : Nat, v = n := ⟨v.toNat, by omega⟩
  have hn : n ≤ 2147483647 := by omega
  rw [key_zero hn]
  obtain ⟨S, hS⟩ : ∃ S, ofL (keyL n c) = S := ⟨_, rfl⟩
  have hd := pad_dec 9 n (by omega)
  have HS : Hid (ofL logP ++ ofL (padD 10 n) ++ T = S) := by show _ = _; rw [← hS, hT, ofL_app, ofL_app]; rfl
  have hTs : T.size ≤ 6 := by rw [hT, ofL_size]; cases c <;> decide
  have HP := hide hd.1
  have hdl := hd.2.1
  have hd1 := hd.2.2
  have DD : ∀ w', Fut w0 w' → Calls Tryz.prog 30 #[.int .i64 (n : Int)] w' fun e w'' => e = .returned (.string (ofL (Lib.decDigits n))) ∧ Step w' w'' := by
    intro w' hf
    have h_ := Tryz.strconv_Itoa (n : Int) (by omega) (by omega) w' (Tab.fut ht (k := hf)).at_
    refine h_.mono ?_
    rintro e w'' ⟨rfl, k, os, rfl⟩
    refine ⟨?_, ⟨below_grow _ _ _⟩⟩
    have e2 : Lib.itoa (n : Int) = Lib.decDigits n := by unfold Lib.itoa; rw [if_neg (by omega), Int.toNat_natCast]
    rw [e2]
    rfl
  obtain ⟨D, hD⟩ : ∃ D, Lib.decDigits n = D := ⟨_, rfl⟩
  rw [hD] at DD HP hdl hd1
  obtain ⟨r, hr⟩ : ∃ r, r + D.length = 10 := ⟨10 - D.length, by omega⟩
  obtain ⟨DS, hDS⟩ : ∃ DS, ofL D = DS := ⟨_, rfl⟩
  have hds : DS.size = D.length := by rw [← hDS, ofL_size]
  rw [hDS] at DD
  have RR := fun w' => Tryz.strings_Repeat ⟨#[48]⟩ r w' (by omega) (by show 1 * r ≤ _; omega)
  rw [show (⟨#[48]⟩ : ByteArray).data.toList = [48] from rfl, rep_zeros] at RR
  obtain ⟨Z, hZ⟩ : ∃ Z : ByteArray, ofL (List.replicate r 48) = Z := ⟨_, rfl⟩
  have hzs : Z.size = r := by rw [← hZ, ofL_size, List.length_replicate]
  have RR : ∀ w', Calls Tryz.prog 31 #[.string ⟨#[48]⟩, .int .i64 (r : Int)] w' fun e w'' => e = .returned (.string Z) ∧ Step w' w'' := fun w' => (RR w').mono fun e w'' ⟨h1, h2⟩ => ⟨by rw [h1, ← hZ]; rfl, ⟨h2⟩⟩
  have HZ : Hid (ofL logP ++ Z ++ DS ++ T = S) := by
    show _ = _
    rw [← HS.out, HP.out, ← hZ, ← hDS, ofL_app, ofL_app, ofL_app]
    rw [List.append_assoc, show 9 + 1 - D.length = r by omega]
  have hsub : (10 : Int) - (DS.size : Int) = (r : Int) := by omega
  have hds2 : DS.size ≤ 10 := by omega
  have hzs2 : Z.size ≤ 10 := by omega
  have DD := hide (fun w' [f : Fut w0 w'] => DD w' f)
  have RR := hide RR
  rw [hS]
  clear hS hd hD hDS hZ hds hzs hdl hd1 hr HS HP hT
  have hv2 : ¬ ((n : Int) > 2147483647) := by omega
  go_enter Tryz.func20, Tryz.ntmps20
  go_wp2_with (first | (go_at_call 30; (with_reducible refine (DD.out _).mono ?_); rintro e w3 ⟨rfl, hs3⟩) | (go_at_call 31; (with_reducible refine (RR.out _).mono ?_); rintro e w4 ⟨rfl, hs4⟩))
  go_ret2
  exact ⟨by rw [← HZ.out]; rfl, Step.of⟩
theorem pkey_any {w0 : World} (v : Int) (w : World) (hv : -9223372036854775808 ≤ v ∧ v ≤ 9223372036854775807) (ht : Tab w0) [f0 : Fut w0 w] :
    Calls Tryz.prog 8 #[.int .i64 v] w fun e w' => e = .returned (.tuple #[.string (keyS v false), .int .i64 (keyE v)]) ∧ Step w w' := by
  have PK := hide (fun w' [Fut w0 w'] => pkeyT_any v false ⟨#[46, 106, 115, 111, 110]⟩ rfl w' hv ht)
  go_enter Tryz.func8, Tryz.ntmps8
  go_wp2_with (go_at_call 20; (with_reducible refine (PK.out _).mono ?_); rintro e w3 ⟨rfl, hs3⟩)
  go_ret2
  exact ⟨rfl, Step.of⟩
theorem pcheck_any {w0 : World} (v : Int) (w : World) (hv : -9223372036854775808 ≤ v ∧ v ≤ 9223372036854775807) (ht : Tab w0) [f0 : Fut w0 w] :
    Calls Tryz.prog 9 #[.int .i64 v] w fun e w' => e = .returned (.tuple #[.string (keyS v true), .int .i64 (keyE v)]) ∧ Step w w' := by
  have PK := hide (fun w' [Fut w0 w'] => pkeyT_any v true ⟨#[46, 99, 104, 101, 99, 107]⟩ rfl w' hv ht)
  go_enter Tryz.func9, Tryz.ntmps9
  go_wp2_with (go_at_call 20; (with_reducible refine (PK.out _).mono ?_); rintro e w3 ⟨rfl, hs3⟩)
  go_ret2
  exact ⟨rfl, Step.of⟩
end Go.Proofs.YtlcimfabimfekaaGreatDoor
