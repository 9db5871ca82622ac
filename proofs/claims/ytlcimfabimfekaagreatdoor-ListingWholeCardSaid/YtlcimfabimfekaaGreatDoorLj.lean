/-
  What every program answers of keys; the law ListingKeys: its walk.
-/
import Derived.Test.YtlcimfabimfekaaGreatDoorLi
import Derived.LaidSub
import Derived.Lib.LaidTab
namespace Go.Proofs.YtlcimfabimfekaaGreatDoor
open Go.RowKit

theorem num_any (n : Int) (w : World) : Calls Tryz.prog 10 #[.int .i64 n] w fun e w' => e = .returned (.int .i64 n) ∧ w = w' := by
  go_enter Tryz.func10, Tryz.ntmps10
  go_wp2
  go_ret
  exact ⟨rfl, rfl⟩
/-- What the row lists of the start's memory holds the library's table. -/
theorem tab_of {l : List (String × DataW Unit)} {W : World} (e : (l.filter fun x => x.1 == "internal/strconv.uint64pow10") = [("internal/strconv.uint64pow10", Lib.tabData .u64 Lib.pow10Tab)]) (h : laidMetH Tryz.prog l W) : Tab W := by
  have h2 := laidMetH.filter (fun x => x.1 == "internal/strconv.uint64pow10") h
  rw [e] at h2
  exact ⟨Lib.tabIs_of_head (g := 4) (t := 144) (e := 62) (n := 20) (by kernel_rfl) (by kernel_rfl) (by kernel_rfl) (by kernel_rfl) (by kernel_rfl) (by kernel_rfl) h2⟩
def k5 : ByteArray := ⟨#[108, 111, 103, 47, 48, 48, 48, 48, 48, 48, 48, 48, 48, 53, 46, 106, 115, 111, 110]⟩
def c5 : ByteArray := ⟨#[108, 111, 103, 47, 48, 48, 48, 48, 48, 48, 48, 48, 48, 53, 46, 99, 104, 101, 99, 107]⟩
theorem a_k5 : keyS 5 false = k5 := by kernel_rfl
theorem a_c5 : keyS 5 true = c5 := by kernel_rfl
theorem a_e5 : keyE 5 = 0 := by kernel_rfl
theorem a_v5 : verV c5 = (5, true) := by kernel_rfl
theorem a_l2 : latestR (versL false [k5, c5]) (versL true [k5, c5]) = (5, 0) := by kernel_rfl
theorem a_l1 : latestR (versL false [k5]) (versL true [k5]) = (0, 2201) := by kernel_rfl
theorem a_l0 : latestR (versL false []) (versL true []) = (0, 2202) := by kernel_rfl
theorem keys_of {w : World} {A : Option Addr} {l : List ByteArray} (h : SlAt w w.heap.size 1 A (strCells l)) (hl : l.length ≤ 100) (hs : (l.all fun s => decide (s.size ≤ 100)) = true) : KeysIn w l A :=
  ⟨h, by omega, fun k hk => by
    have := List.all_eq_true.1 hs k hk
    simp only [decide_eq_true_eq] at this
    omega⟩

set_option maxRecDepth 100000 in
set_option maxHeartbeats 8000000 in
theorem awake22_any {w0 : World} (w : World) (ht : Tab w0) [f0 : Fut w0 w] : Calls Tryz.prog 7 #[] w fun e w' => e = .returned (.bool true) ∧ Step w w' := by
  have P1 := fun w' [Fut w0 w'] => pkey_any 5 w' (by decide) ht
  have P2 := fun w' [Fut w0 w'] => pcheck_any 5 w' (by decide) ht
  have P3 := fun w' [Fut w0 w'] => pkey_any (-1) w' (by decide) ht
  rw [a_k5, a_e5] at P1
  rw [a_c5, a_e5] at P2
  rw [keyE_bad (.inl (by decide))] at P3
  have P1 := hide P1; have P2 := hide P2; have P3 := hide P3
  have V1 := fun w' => pver_any c5 w' (by decide)
  rw [a_v5] at V1
  have V1 := hide V1
  have L2 := fun (W : World) (A : Option Addr) (h : KeysIn W [k5, c5] A) w' [Fut W w'] => platest_any [k5, c5] A 2 w' h (by decide)
  have L1 := fun (W : World) (A : Option Addr) (h : KeysIn W [k5] A) w' [Fut W w'] => platest_any [k5] A 1 w' h (by decide)
  have L0 := fun w' => platest_any (w0 := w') [] none 0 w' ⟨SlAt.nil_, by decide, fun k hk => by cases hk⟩ (by decide)
  simp only [a_l2, List.length_cons, List.length_nil, Nat.zero_add, Nat.reduceAdd] at L2
  simp only [a_l1, List.length_cons, List.length_nil, Nat.zero_add] at L1
  simp only [a_l0, List.length_nil] at L0
  have L2 := hide L2; have L1 := hide L1; have L0 := hide L0
  have KI := hide (fun (w' : World) (A : Option Addr) (h : SlAt w' w'.heap.size 1 A (strCells [k5, c5])) => keys_of h (by decide) (by decide))
  have KJ := hide (fun (w' : World) (A : Option Addr) (h : SlAt w' w'.heap.size 1 A (strCells [k5])) => keys_of h (by decide) (by decide))
  have h1 : (k5.toList == [108, 111, 103, 47, 48, 48, 48, 48, 48, 48, 48, 48, 48, 53, 46, 106, 115, 111, 110]) = true := by rw [ByteArray.toList_eq]; rfl
  have h2 : (c5.toList == [108, 111, 103, 47, 48, 48, 48, 48, 48, 48, 48, 48, 48, 53, 46, 99, 104, 101, 99, 107]) = true := by rw [ByteArray.toList_eq]; rfl
  obtain ⟨k, hk⟩ : ∃ k, k = k5 := ⟨_, rfl⟩
  obtain ⟨c, hc⟩ : ∃ c, c = c5 := ⟨_, rfl⟩
  rw [← hk] at P1 h1 L2 L1 KI KJ
  rw [← hc] at P2 V1 h2 L2 KI
  clear hk hc
  go_enter Tryz.func7, Tryz.ntmps7
  go_wp2_with (first
    | (go_at_call 8; (with_reducible refine (P1.out _).mono ?_); rintro e w1 ⟨rfl, hs1⟩)
    | (go_at_call 9; (with_reducible refine (P2.out _).mono ?_); rintro e w2 ⟨rfl, hs2⟩)
    | (go_at_call 11; (with_reducible refine (V1.out _).mono ?_); rintro e w3 ⟨rfl, hs3⟩; have K3 := hide (KI.out _ _ (SlAt.strs2 (w := w3) rfl k c)))
    | (go_at_call 12; (with_reducible refine (L2.out _ _ K3.out _).mono ?_); rintro e w4 ⟨rfl, hs4⟩; have K4 := hide (KJ.out _ _ (SlAt.strs1 (w := w4) rfl k)))
    | (go_at_call 12; (with_reducible refine (L1.out _ _ K4.out _).mono ?_); rintro e w5 ⟨rfl, hs5⟩)
    | (go_at_call 12; (with_reducible refine (L0.out _).mono ?_); rintro e w6 ⟨rfl, hs6⟩)
    | (go_at_call 8; (with_reducible refine (P3.out _).mono ?_); rintro e w7 ⟨rfl, hs7⟩)
    | (go_at_call 10; refine (num_any _ _).mono ?_; rintro e w' ⟨rfl, rfl⟩))
  go_ret
  exact ⟨rfl, Step.of⟩

theorem ver_of_key {v : Nat} {c : Bool} (h : v ≤ 2147483647) : verV (keyS (v : Int) c) = ((v : Int), c) := by
  rw [key_zero h]
  exact ver_some (by rw [ofL_list]; exact verR_key h)
theorem ver_x (s : ByteArray) : verV ((⟨#[120]⟩ : ByteArray) ++ s) = (-1, false) := by
  refine ver_none ?_
  unfold verR
  rw [if_neg]
  rintro ⟨h, _⟩
  have h2 : (((⟨#[120]⟩ : ByteArray) ++ s).data.toList.take 4)[0]? = some 120 := by simp
  rw [h] at h2
  cases h2
theorem ver_behind {v : Nat} (h : v ≤ 2147483647) : verV (keyS (v : Int) false ++ (⟨#[120]⟩ : ByteArray)) = (-1, false) := by
  refine ver_none ?_
  rw [key_zero h]
  cases e : verR (ofL (keyL v false) ++ (⟨#[120]⟩ : ByteArray)).data.toList with
  | none => rfl
  | some p =>
    obtain ⟨x, c⟩ := p
    obtain ⟨h1, _⟩ := verR_some e
    have h2 : (ofL (keyL v false) ++ (⟨#[120]⟩ : ByteArray)).data.toList = keyL v false ++ [120] := by
      rw [show (⟨#[120]⟩ : ByteArray) = ofL [120] from rfl, ofL_app, ofL_list]
    rw [h2] at h1
    have h3 := congrArg List.getLast? h1
    have h4 : (keyL v false ++ [120]).getLast? = some 120 := by simp
    rw [h4] at h3
    exfalso
    cases c with
    | false => unfold keyL at h3; rw [List.getLast?_append] at h3; simp [tailL] at h3
    | true => unfold keyL at h3; rw [List.getLast?_append] at h3; simp [tailL] at h3

set_option maxRecDepth 100000 in
set_option maxHeartbeats 8000000 in
theorem lkeys_any (v : Int) (s : ByteArray) (w : World) (hv : -9223372036854775808 ≤ v ∧ v ≤ 9223372036854775807) (hs : s.size ≤ 140737488355328) (ht : Tab w) :
    Calls Tryz.prog 3 #[.int .i64 v, .string s] w fun e w' => e = .returned (.bool true) ∧ Step w w' := by
  have AW := hide (fun w' [Fut w w'] => awake22_any w' ht)
  have P1 := fun w' [Fut w w'] => pkey_any v w' hv ht
  have P2 := fun w' [Fut w w'] => pcheck_any v w' hv ht
  by_cases h0 : v < 0 ∨ 2147483647 < v
  · rw [key_bad h0, keyE_bad h0] at P1 P2
    have P1 := hide P1; have P2 := hide P2
    rcases (by omega : v < 0 ∨ (¬ v < 0 ∧ v > 2147483647)) with h1 | ⟨h1, h2⟩
    all_goals
      clear h0
      go_enter Tryz.func3, Tryz.ntmps3
      go_wp2_with (first
        | (go_at_call 7; (with_reducible refine (AW.out _).mono ?_); rintro e w1 ⟨rfl, hs1⟩)
        | (go_at_call 8; (with_reducible refine (P1.out _).mono ?_); rintro e w2 ⟨rfl, hs2⟩)
        | (go_at_call 9; (with_reducible refine (P2.out _).mono ?_); rintro e w3 ⟨rfl, hs3⟩)
        | (go_at_call 10; refine (num_any _ _).mono ?_; rintro e w' ⟨rfl, rfl⟩))
      go_ret
      exact ⟨rfl, Step.of⟩
  · obtain ⟨n, rfl⟩ : ∃ n : Nat, v = n := ⟨v.toNat, by omega⟩
    have hn : n ≤ 2147483647 := by omega
    rw [keyE_good h0] at P1 P2
    obtain ⟨k, hk⟩ : ∃ k, keyS (n : Int) false = k := ⟨_, rfl⟩
    obtain ⟨c, hc⟩ : ∃ c, keyS (n : Int) true = c := ⟨_, rfl⟩
    have hks : k.size = 19 := by rw [← hk, key_zero hn, ofL_size, keyL_len]; rfl
    have hcs : c.size = 20 := by rw [← hc, key_zero hn, ofL_size, keyL_len]; rfl
    have V1 := fun w' => pver_any k w' (by omega)
    have V2 := fun w' => pver_any c w' (by omega)
    have V3 := fun w' => pver_any ((⟨#[120]⟩ : ByteArray) ++ s) w' (by rw [ByteArray.size_append]; show 1 + _ ≤ _; omega)
    have V4 := fun w' => pver_any (k ++ (⟨#[120]⟩ : ByteArray)) w' (by rw [ByteArray.size_append]; show _ + 1 ≤ _; omega)
    rw [show verV k = ((n : Int), false) by rw [← hk]; exact ver_of_key hn] at V1
    rw [show verV c = ((n : Int), true) by rw [← hc]; exact ver_of_key hn] at V2
    rw [ver_x] at V3
    rw [show verV (k ++ (⟨#[120]⟩ : ByteArray)) = (-1, false) by rw [← hk]; exact ver_behind hn] at V4
    rw [hk] at P1
    rw [hc] at P2
    have P1 := hide P1; have P2 := hide P2; have V1 := hide V1; have V2 := hide V2; have V3 := hide V3; have V4 := hide V4
    have hv2 : ¬ (n : Int) > 2147483647 := by omega
    clear hk hc h0
    go_enter Tryz.func3, Tryz.ntmps3
    go_wp2_with (first
      | (go_at_call 7; (with_reducible refine (AW.out _).mono ?_); rintro e w1 ⟨rfl, hs1⟩)
      | (go_at_call 8; (with_reducible refine (P1.out _).mono ?_); rintro e w2 ⟨rfl, hs2⟩)
      | (go_at_call 9; (with_reducible refine (P2.out _).mono ?_); rintro e w3 ⟨rfl, hs3⟩)
      | (go_at_call 11; (with_reducible refine (V1.out _).mono ?_); rintro e w4 ⟨rfl, hs4⟩)
      | (go_at_call 11; (with_reducible refine (V2.out _).mono ?_); rintro e w5 ⟨rfl, hs5⟩)
      | (go_at_call 11; (with_reducible refine (V3.out _).mono ?_); rintro e w6 ⟨rfl, hs6⟩)
      | (go_at_call 11; (with_reducible refine (V4.out _).mono ?_); rintro e w7 ⟨rfl, hs7⟩)
      | (go_at_call 10; refine (num_any _ _).mono ?_; rintro e w' ⟨rfl, rfl⟩))
    go_ret
    exact ⟨rfl, Step.of⟩
end Go.Proofs.YtlcimfabimfekaaGreatDoor
